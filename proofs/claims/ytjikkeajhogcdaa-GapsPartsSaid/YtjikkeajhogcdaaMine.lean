/- gaps.Hole and known in the form in which the printed laws call them; condition: the boxes have the whole's sides. -/
import Derived.Test.YtjikkeajhogcdaaKnown
namespace Go.Proofs.Ytjikkeajhogcdaa.PGapsTells
set_option linter.unusedVariables false
open Go.RowKit Go.Proofs.YtjikkeajhogcdaaW.PrintWords Go.Proofs.YtjikkeajhogcdaaW.PrintLast Go.Proofs.YtjikkeajhogcdaaW.PrintMore
theorem info25 : (Try.prog.info? 25).map (fun i => (i.zero, i.size, i.bytes)) = some (some (.agg #[(.slice none 0 0), (.slice none 0 0)]), 2, 48) := by kernel_rfl
theorem k25_openF {W : World} {ok : Nat → Prop} {x : S25} {cs : List Value} (h : Kd.FK k25 W ok x cs) : ∃ A0 c0 A1 c1, cs = [.slice A0 x.f0.length c0, .slice A1 x.f1.length c1] ∧ x.f0.length ≤ c0 ∧ Kd.F (Kd.int .i64) W ok A0 x.f0.length x.f0 ∧ x.f1.length ≤ c1 ∧ Kd.F (Kd.int .i64) W ok A1 x.f1.length x.f1 := by
  obtain ⟨A0, c0, A1, c1, rfl, l0, _, l1, _⟩ := k25_open (Kd.FK_now h)
  exact ⟨A0, c0, A1, c1, rfl, l0, (fun W' hW => by obtain ⟨A0_, c0_, A1_, c1_, he, l0_, g0_, l1_, g1_⟩ := k25_open (h W' hW); injection (Option.some.inj (show some (Value.slice A0 x.f0.length c0) = some (Value.slice A0_ x.f0.length c0_) from congrArg (fun l => l[0]?) he)) with ha_ _ _; rw [ha_]; exact g0_), l1, (fun W' hW => by obtain ⟨A0_, c0_, A1_, c1_, he, l0_, g0_, l1_, g1_⟩ := k25_open (h W' hW); injection (Option.some.inj (show some (Value.slice A1 x.f1.length c1) = some (Value.slice A1_ x.f1.length c1_) from congrArg (fun l => l[1]?) he)) with ha_ _ _; rw [ha_]; exact g1_)⟩
theorem k25_mkF (W : World) (ok : Nat → Prop) (x : S25) {A0 : Option Addr} {c0 : Nat} (l0 : x.f0.length ≤ c0) (g0 : Kd.F (Kd.int .i64) W ok A0 x.f0.length x.f0) {A1 : Option Addr} {c1 : Nat} (l1 : x.f1.length ≤ c1) (g1 : Kd.F (Kd.int .i64) W ok A1 x.f1.length x.f1) : Kd.FK k25 W ok x [.slice A0 x.f0.length c0, .slice A1 x.f1.length c1] := fun W2 hW => k25_mk W2 x l0 (g0 W2 hW) l1 (g1 W2 hW)
/-- What gaps.Hole answers of a row of boxes: the point, or none. -/
def ansOf (o : Option (List Int)) : List Int × Bool := match o with
  | some q => (q, true)
  | none => ([], false)
def boxesB (l : List S25) (lo hi : List Int) : Bool := decide (l.length ≤ 8) && decide (lo.length ≤ 1000) && decide (hi.length = lo.length) && l.all fun b => decide (b.f0.length = lo.length) && decide (b.f1.length = lo.length) && b.f1.all fun x => decide (-1000 ≤ x) && decide (x ≤ 1000)
theorem boxes_of {l : List S25} {lo hi : List Int} (h : boxesB l lo hi = true) : Boxes l lo hi := by
  simp only [boxesB, Bool.and_eq_true, decide_eq_true_eq, List.all_eq_true] at h
  obtain ⟨⟨⟨h1, h2⟩, h3⟩, h4⟩ := h
  refine ⟨h1, h2, h3, fun b hb => (h4 b hb).1, fun b hb j => ?_⟩
  rcases Nat.lt_or_ge j b.f1.length with hj | hj
  · have h5 := (h4 b hb).2 (b.f1[j]) (List.getElem_mem hj)
    simpa [at_, List.getD, hj] using h5
  · simp [at_, List.getD, List.getElem?_eq_none hj]
def gaps_Hole.f (_ : Nat) (l0 : List S25) (l1_0 l1_1 : List Int) : Option (List Int × Bool) :=
  if boxesB l0 l1_0 l1_1 = true then some (ansOf (holeF l0 l1_0 l1_1 l1_0.length [])) else none
theorem gaps_Hole.mono : ∀ a0 a1 a2 k, LeO (gaps_Hole.f k a0 a1 a2) (gaps_Hole.f (k + 1) a0 a1 a2) := fun _ _ _ _ => LeO.refl _
theorem gaps_Hole.calls (k : Nat) (A0 : Option Addr) (c0 : Nat) (l0 : List (S25)) (A1_0 : Option Addr) (c1_0 : Nat) (l1_0 : List Int) (A1_1 : Option Addr) (c1_1 : Nat) (l1_1 : List Int) (r1 : List Int) (r2 : Bool) (w : World) (hr0 : Kd.C k25 w A0 l0.length l0) (hc0 : l0.length ≤ c0) (hr1_0 : Kd.C (Kd.int .i64) w A1_0 l1_0.length l1_0) (hc1_0 : l1_0.length ≤ c1_0) (hr1_1 : Kd.C (Kd.int .i64) w A1_1 l1_1.length l1_1) (hc1_1 : l1_1.length ≤ c1_1) (h : gaps_Hole.f k l0 l1_0 l1_1 = some (r1, r2)) :
    Calls Try.prog 7 #[.slice A0 l0.length c0, .agg #[.slice A1_0 l1_0.length c1_0, .slice A1_1 l1_1.length c1_1]] w fun e w' => ∃ v0_ : Value, e = .returned (.tuple #[v0_, .bool r2]) ∧ Kd.R (Kd.int .i64) 3 w' w.heap.size (fun _ => True) v0_ r1 ∧ Below w.heap.size w w' := by
  unfold gaps_Hole.f at h
  split at h
  case isFalse => cases h
  case isTrue hB =>
    refine (Hole_calls l0 l1_0 l1_1 (boxes_of hB) A0 c0 A1_0 c1_0 A1_1 c1_1 w hr0 hr1_0 hr1_1).mono ?_
    rintro e w' ⟨v, ok, rfl, hans, hb⟩
    cases hres : holeF l0 l1_0 l1_1 l1_0.length [] with
    | some q =>
      rw [hres] at hans h
      obtain ⟨rfl, ho⟩ := hans
      simp only [ansOf, Option.some.injEq, Prod.mk.injEq] at h
      obtain ⟨rfl, rfl⟩ := h
      exact ⟨v, rfl, Kd.R_of_own (enc := Value.int .i64) ho (fun _ _ => trivial), hb⟩
    | none =>
      rw [hres] at hans h
      obtain ⟨rfl, rfl⟩ := hans
      simp only [ansOf, Option.some.injEq, Prod.mk.injEq] at h
      obtain ⟨rfl, rfl⟩ := h
      exact ⟨_, rfl, Kd.R_nil _ _ _ _ _, hb⟩
def dossierlaw9_known.f  : Option (Bool) := some true
theorem dossierlaw9_known.calls  (r : Bool) (w : World) (h : dossierlaw9_known.f  = some r) :
    Calls Try.prog 9 #[] w fun e w' => e = .returned (.bool r) ∧ Below w.heap.size w w' := by
  cases h
  exact known_true w
end Go.Proofs.Ytjikkeajhogcdaa.PGapsTells
