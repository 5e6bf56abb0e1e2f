/- gaps.hole and gaps.Hole, walked: the first point by the steps; conditions: boxes and whole lie in the world, all have the same sides. -/
import Derived.Test.YtjikkeajhogcdaaCov
import Derived.Deep.RegionHeld3
import Derived.Deep.RegionLawGrows
namespace Go.Proofs.Ytjikkeajhogcdaa
open Go.RowKit Go.Proofs.YtjikkeajhogcdaaW.PrintWords Go.Proofs.YtjikkeajhogcdaaW.PrintLast Go.Proofs.YtjikkeajhogcdaaW.PrintMore PGapsTells
/-- The first that is something. -/
def firstSome {α β : Type} (f : α → Option β) : List α → Option β
  | [] => none
  | x :: r => match f x with
    | some y => some y
    | none => firstSome f r
/-- gaps.hole: so many sides are left. -/
def holeF (l : List S25) (lo hi : List Int) : Nat → List Int → Option (List Int)
  | 0, p => if covB l p then none else some p
  | r + 1, p => firstSome (fun n => holeF l lo hi r (p ++ [n])) (stepsF l lo hi p.length)
/-- What a box list must be. -/
structure Boxes (l : List S25) (lo hi : List Int) : Prop where
  n : l.length ≤ 8
  d : lo.length ≤ 1000
  hi : hi.length = lo.length
  same : ∀ b ∈ l, b.f0.length = lo.length ∧ b.f1.length = lo.length
  num : ∀ b ∈ l, ∀ j, -1000 ≤ at_ b.f1 j ∧ at_ b.f1 j ≤ 1000
def Ans (w w' : World) (o : Option (List Int)) (v : Value) (ok : Bool) : Prop := match o with
  | some q => ok = true ∧ w'.ownsRow w.heap.size 3 1 v q.length (zs q)
  | none => ok = false
/-- A point that the call has made: nil, or a row of its own. -/
def Pt (w : World) (pA : Option Addr) (pc : Nat) (p : List Int) : Prop := ∃ B, w.ownsRow B 3 1 (.slice pA p.length pc) p.length (zs p)
theorem Pt.reads {w : World} {pA : Option Addr} {pc : Nat} {p : List Int} (h : Pt w pA pc p) (hn : p.length ≤ 1000) : Kd.C (Kd.int .i64) w pA p.length p ∧ p.length ≤ pc := by
  obtain ⟨B, h⟩ := h
  refine ⟨⟨rfl, by omega, fun h0 => ?_⟩, ?_⟩
  · obtain ⟨ad, e, _⟩ := own_cell h (List.getElem?_eq_getElem h0)
    refine ⟨ad, e, fun j x hj => ⟨[.int .i64 x], rfl, rfl, fun i u hi => ?_⟩⟩
    obtain ⟨ad', e', hc⟩ := own_cell h hj
    rw [e] at e'
    cases e'
    cases i with
    | zero =>
      simp only [List.getElem?_cons_zero, Option.some.injEq] at hi
      subst hi
      have hsz : (Kd.int .i64).sz = 1 := rfl
      rw [hsz, Nat.mul_one]
      exact hc
    | succ i => simp at hi
  · rcases h.2 with ⟨hv, h0⟩ | ⟨g, cap, cur, hv, hb, hh, e1, e2, e3, e4⟩
    · omega
    · injection hv with _ _ e
      omega
theorem Pt.below {w w' : World} {pA : Option Addr} {pc : Nat} {p : List Int} (h : Pt w pA pc p) (hb : Below w.heap.size w w') : Pt w' pA pc p := by
  obtain ⟨B, h⟩ := h
  exact ⟨B, own_keep h hb⟩
theorem clone_ints {w : World} {pA : Option Addr} {pc : Nat} {p : List Int} (hp : Pt w pA pc p) (hn : p.length ≤ 1000) :
    Calls Try.prog 24 #[.slice pA p.length pc] w fun e w' => ∃ v, e = .returned v ∧ w'.ownsRow w.heap.size 3 1 v p.length (zs p) ∧ Below w.heap.size w w' := by
  obtain ⟨B, h⟩ := hp
  rcases h.2 with ⟨hv, h0⟩ | ⟨g, cap, cur, hv, _⟩
  · injection hv with e _ _
    subst e
    have : p = [] := List.length_eq_zero_iff.1 h0
    subst this
    refine (Try.slices_Clone_int_nil _ pc w).mono ?_
    rintro e w1 ⟨rfl, rfl⟩
    exact ⟨_, rfl, World.ownsRow_nil _ _ _ _, Below.refl _ _⟩
  · injection hv with e _ e3
    subst e
    refine (Try.slices_Clone_int g 0 p.length pc p w (Nat.le_refl _) (by omega) (fun j hj => ?_)).mono ?_
    · obtain ⟨ad, e, hc⟩ := own_cell h (List.getElem?_eq_getElem hj)
      cases e
      have he : (⟨g, 0, none⟩ : Addr).add j = ⟨g, 0 + j, none⟩ := by unfold Addr.add; split <;> simp_all
      rw [he] at hc
      rw [hc]
      simp [List.getD, hj]
    · rintro e w1 ⟨v, rfl, ho, _, hb⟩
      rw [List.take_length] at ho
      exact ⟨v, rfl, ho, hb⟩
set_option maxHeartbeats 1000000 in
theorem hole_leaf (l : List S25) (lo hi : List Int) (hB : Boxes l lo hi) (A : Option Addr) (c : Nat) (A0 : Option Addr) (c0 : Nat) (A1 : Option Addr) (c1 : Nat) (p : List Int) (pA : Option Addr) (pc : Nat) (w : World)
    (hl : Kd.C k25 w A l.length l) (hpl : p.length = lo.length) (hp : Pt w pA pc p) :
    Calls Try.prog 18 #[.slice A l.length c, .agg #[.slice A0 lo.length c0, .slice A1 hi.length c1], .slice pA p.length pc] w fun e w' => ∃ v ok, e = .returned (.tuple #[v, .bool ok]) ∧ Ans w w' (holeF l lo hi 0 p) v ok ∧ Below w.heap.size w w' := by
  obtain ⟨W2, hW2⟩ : ∃ W2, (w.alloc (.cells #[.slice A0 lo.length c0, .slice A1 hi.length c1] 25)).alloc (.cells #[.slice pA p.length pc] 22) = W2 := ⟨_, rfl⟩
  have hbW : Below w.heap.size w W2 := by rw [← hW2]; exact ((Below.refl _ _).alloc (Nat.le_refl _) _).alloc (by simp) _
  have hd := hB.d
  have k0 : W2.cell? ⟨w.heap.size + 1, 0, none⟩ = some (.slice pA p.length pc) := by
    rw [← hW2]
    have := cell_of (heap_alloc_new (w.alloc (.cells #[.slice A0 lo.length c0, .slice A1 hi.length c1] 25)) (.cells #[.slice pA p.length pc] 22)) 0
    simp
  have HCON := Lib.hid (contains_calls A c l (w.heap.size + 1) pA pc p W2 k0 (Kd.C_below hl hbW) ((hp.below hbW).reads (by omega)).1 (hp.reads (by omega)).2 hB.n (fun b hb => ⟨(hB.same b hb).2.trans (hB.same b hb).1.symm, by have := (hB.same b hb).1; omega⟩))
  have HP := Lib.hid (hp.below hbW)
  have HBW := Lib.hid hbW
  have HPL := Lib.hid hpl
  have hpl' : (p.length : Int) = (lo.length : Int) := by omega
  have k1 : W2.cell? ⟨w.heap.size, 0, none⟩ = some (.slice A0 lo.length c0) := by
    rw [← hW2, World.cell?_of_block (Below.heap_alloc _ _ _ (by simp))]
    exact cell_of (heap_alloc_new w _) 0
  have HK0 := Lib.hid k0
  clear hl hp hbW hpl
  go_enter Try.func18, Try.ntmps18
  go_wp2_with fail
  refine HCON.out.mono ?_
  rintro e w3 ⟨rfl, hb3⟩
  have HB3 := Lib.hid hb3
  have k3 : w3.cell? ⟨w.heap.size + 1, 0, none⟩ = some (.slice pA p.length pc) := cell_below hb3 (lt_of_cell HK0.out) HK0.out
  clear hb3 k0 k1
  go_wp2_with fail
  refine (clone_ints (HP.out.below HB3.out) (by have := HPL.out; omega)).mono ?_
  rintro e w4 ⟨v, rfl, ho, hb4⟩
  have H4 := Lib.hid (And.intro ho hb4)
  clear ho hb4
  go_wp2_with fail
  go_ret2
  refine ⟨v, _, rfl, ?_, HBW.out.trans ((HB3.out.mono HBW.out.size).trans (H4.out.2.mono (Nat.le_trans HBW.out.size HB3.out.size)))⟩
  unfold Ans holeF
  cases hcv : covB l p with
  | true => rfl
  | false => exact ⟨rfl, own_base H4.out.1 (Nat.le_trans HBW.out.size HB3.out.size)⟩
theorem stepsF_len (l : List S25) (lo hi : List Int) (d : Nat) : (stepsF l lo hi d).length ≤ l.length + 1 := by
  unfold stepsF
  have h1 := Lib.compact_length_le ((cand l lo hi d).mergeSort fun x y => decide (x ≤ y))
  rw [List.length_mergeSort] at h1
  have h2 := candK_len l lo hi d l.length
  rw [candK_all] at h2
  omega
theorem firstSome_take {α β : Type} (f : α → Option β) : ∀ (l : List α) (k : Nat) (h : k < l.length), (∀ x ∈ l.take k, f x = none) → ∀ y, f l[k] = some y → firstSome f l = some y
  | x :: r, 0, _, _, y, hy => by
    have hy' : f x = some y := hy
    simp [firstSome, hy']
  | x :: r, k + 1, h, hno, y, hy => by
    have hx : f x = none := hno x (by simp)
    simp only [firstSome, hx]
    exact firstSome_take f r k (by simpa using h) (fun z hz => hno z (by simp [hz])) y hy
  | [], k, h, _, _, _ => by simp at h
theorem firstSome_none {α β : Type} (f : α → Option β) : ∀ (l : List α), (∀ x ∈ l, f x = none) → firstSome f l = none
  | [], _ => rfl
  | x :: r, h => by
    simp only [firstSome, h x (by simp)]
    exact firstSome_none f r fun z hz => h z (by simp [hz])
set_option maxHeartbeats 2000000 in
theorem hole_calls (l : List S25) (lo hi : List Int) (hB : Boxes l lo hi) (A : Option Addr) (c : Nat) (A0 : Option Addr) (c0 : Nat) (A1 : Option Addr) (c1 : Nat) : ∀ (r : Nat) (p : List Int) (pA : Option Addr) (pc : Nat) (w : World)
    (_ : Kd.C k25 w A l.length l) (_ : Kd.C (Kd.int .i64) w A0 lo.length lo) (_ : Kd.C (Kd.int .i64) w A1 hi.length hi) (_ : p.length + r = lo.length) (_ : Pt w pA pc p),
    Calls Try.prog 18 #[.slice A l.length c, .agg #[.slice A0 lo.length c0, .slice A1 hi.length c1], .slice pA p.length pc] w fun e w' => ∃ v ok, e = .returned (.tuple #[v, .bool ok]) ∧ Ans w w' (holeF l lo hi r p) v ok ∧ Below w.heap.size w w' := by
  intro r
  induction r with
  | zero =>
    intro p pA pc w hl _ _ hpl hp
    exact hole_leaf l lo hi hB A c A0 c0 A1 c1 p pA pc w hl (by omega) hp
  | succ r ihr =>
    intro p pA pc w hl h0 h1 hpl hp
    obtain ⟨i0, hi0, hz0, hz1, hz2⟩ := info_parts info3
    have ih := fun p pA pc w h1 h2 h3 h4 h5 => ihr p pA pc w h1 h2 h3 h4 h5
    obtain ⟨W2, hW2⟩ : ∃ W2, (w.alloc (.cells #[.slice A0 lo.length c0, .slice A1 hi.length c1] 25)).alloc (.cells #[.slice pA p.length pc] 22) = W2 := ⟨_, rfl⟩
    have hbW : Below w.heap.size w W2 := by rw [← hW2]; exact ((Below.refl _ _).alloc (Nat.le_refl _) _).alloc (by simp) _
    have hd := hB.d
    have hhi := hB.hi
    have k0 : W2.cell? ⟨w.heap.size + 1, 0, none⟩ = some (.slice pA p.length pc) := by
      rw [← hW2]
      have := cell_of (heap_alloc_new (w.alloc (.cells #[.slice A0 lo.length c0, .slice A1 hi.length c1] 25)) (.cells #[.slice pA p.length pc] 22)) 0
      simp
    have k1 : W2.cell? ⟨w.heap.size, 0, none⟩ = some (.slice A0 lo.length c0) := by
      rw [← hW2, World.cell?_of_block (Below.heap_alloc _ _ _ (by simp))]
      exact cell_of (heap_alloc_new w _) 0
    have k2 : W2.cell? ⟨w.heap.size, 1, none⟩ = some (.slice A1 hi.length c1) := by
      rw [← hW2, World.cell?_of_block (Below.heap_alloc _ _ _ (by simp))]
      exact cell_of (heap_alloc_new w _) 1
    have hst := steps_calls A c l A0 c0 lo A1 c1 hi p.length W2 (Kd.C_below hl hbW) (Kd.C_below h0 hbW) (Kd.C_below h1 hbW) (by omega) (by omega) hB.n (fun i hi' => ⟨by have := (hB.same _ (List.getElem_mem hi')).2; omega, (hB.num _ (List.getElem_mem hi') _)⟩)
    have HST := Lib.hid hst
    have HIH := Lib.hid ih
    have HP := Lib.hid (hp.below hbW)
    have HBW := Lib.hid hbW
    have HK : Hid (∀ w', Below W2.heap.size W2 w' → w'.cell? ⟨w.heap.size + 1, 0, none⟩ = some (.slice pA p.length pc) ∧ w'.cell? ⟨w.heap.size, 0, none⟩ = some (.slice A0 lo.length c0) ∧ w'.cell? ⟨w.heap.size, 1, none⟩ = some (.slice A1 hi.length c1)) := Lib.hid fun w' hb => ⟨cell_below hb (lt_of_cell k0) k0, cell_below hb (lt_of_cell k1) k1, cell_below hb (lt_of_cell k2) k2⟩
    have HCC := Lib.hid (And.intro (Kd.C_below hl hbW) (And.intro (Kd.C_below h0 hbW) (Kd.C_below h1 hbW)))
    have hpl' : (p.length : Int) < (lo.length : Int) := by omega
    have HPL := Lib.hid hpl
    clear hl h0 h1 hp hbW hst ih ihr hpl hhi
    go_enter Try.func18, Try.ntmps18
    go_wp2_with fail
    refine HST.out.mono ?_
    rintro e w3 ⟨v, rfl, ho3, hb3⟩
    obtain ⟨sa, sc, rfl⟩ := own_shape ho3
    obtain ⟨ST, hSTe⟩ : ∃ ST, stepsF l lo hi p.length = ST := ⟨_, rfl⟩
    rw [hSTe] at ho3
    have HSTE := Lib.hid hSTe
    rw [hSTe]
    have HO3 := Lib.hid ho3
    have HB3 := Lib.hid hb3
    have hst9 : ST.length ≤ 9 := by have := stepsF_len l lo hi p.length; have := hB.n; rw [hSTe] at *; omega
    clear ho3 hSTe hb3 k0 k1 k2
    go_wp2_with fail
    go_loopg [32] ST.length (fun g i wr => ∃ k, k ≤ ST.length ∧ g + k = ST.length ∧ i = .int .i64 k ∧ Below w3.heap.size w3 wr ∧ ∀ x ∈ ST.take k, holeF l lo hi r (p ++ [x]) = none)
    case atStart => exact ⟨0, Nat.zero_le _, rfl, rfl, Below.refl _ _, by simp⟩
    case round =>
      obtain ⟨k, hk, hg, rfl, hbr, hno⟩ := hrel
      have HG := Lib.hid hg
      have HBR := Lib.hid hbr
      have HNO := Lib.hid hno
      have HB2 : Hid (Below W2.heap.size W2 wr) := Lib.hid (HB3.out.trans (hbr.mono HB3.out.size))
      clear hg hno
      by_cases hlt : k < ST.length
      · obtain ⟨sad, rfl, hcell⟩ := own_cell HO3.out (List.getElem?_eq_getElem hlt)
        have hxc := cell_below hbr (lt_of_cell hcell) hcell
        obtain ⟨x, hx⟩ : ∃ x, ST[k] = x := ⟨_, rfl⟩
        rw [hx] at hxc
        have HX := Lib.hid hx
        obtain ⟨u0, u1, u2⟩ := HK.out _ HB2.out
        clear hcell hx hbr
        have HD : Hid (Below W2.heap.size W2 wr.drew) := Lib.hid (below_drewN HB2.out 1)
        have HNW : Hid (∀ (j : Nat) (u : Value), [Value.int .i64 x][j]? = some u → (wr.drew.alloc (.cells #[.int .i64 x] 3)).cell? ((⟨wr.heap.size, 0, none⟩ : Addr).add j) = some u) := Lib.hid (cell_one_new wr.drew (.int .i64 x) 3)
        have HOL : Hid (∀ b, pA = some b → ∀ j u, (zs p)[j]? = some u → (wr.drew.alloc (.cells #[.int .i64 x] 3)).cell? (b.add j) = some u) := Lib.hid (fun b hb j u hj => by
          obtain ⟨B, h⟩ := HP.out
          obtain ⟨y, hy, hu⟩ : ∃ y, p[j]? = some y ∧ u = .int .i64 y := by
            rw [zs, List.getElem?_map] at hj
            cases hpj : p[j]? with
            | none => rw [hpj] at hj; cases hj
            | some y => rw [hpj] at hj; exact ⟨y, rfl, (Option.some.inj hj).symm⟩
          obtain ⟨ad, e, hc⟩ := own_cell h hy
          rw [hb] at e
          cases e
          rw [hu]
          exact cell_below (HD.out.alloc HD.out.size _) (lt_of_cell hc) hc)
        have hlp : (p.length : Int) ≤ (pc : Int) := by have := (HP.out.reads (by omega)).2; omega
        cases pA with
        | none =>
          obtain ⟨rfl, rfl⟩ : p = [] ∧ pc = 0 := by
            obtain ⟨B, h⟩ := HP.out
            rcases h.2 with ⟨hv, h0⟩ | ⟨g, cap, cur, hv, _⟩
            · injection hv with _ _ e3
              exact ⟨List.length_eq_zero_iff.1 h0, e3⟩
            · injection hv with e1 _ _
              cases e1
          go_wp2_with fail
          go_region_held3 (fun w' => w'.cell? ⟨w.heap.size + 1, 0, none⟩ = some (.slice none 0 0) ∧ w'.cell? ⟨w.heap.size, 0, none⟩ = some (.slice A0 lo.length c0) ∧ w'.cell? ⟨w.heap.size, 1, none⟩ = some (.slice A1 hi.length c1))
            (first | exact HK.out _ HD.out | exact HK.out _ (HD.out.alloc HD.out.size _) | exact HK.out _ H5.out.1 | exact HK.out _ H6.out.1)
            (first
              | (go_at_call 18; have hcall := HIH.out ([] ++ [x]) a5 c5 w5 (Kd.C_below HCC.out.1 H5.out.1) (Kd.C_below HCC.out.2.1 H5.out.1) (Kd.C_below HCC.out.2.2 H5.out.1) (by have := HPL.out; simp at this ⊢; omega) ⟨_, by have := H5.out.2.1; simpa [zs] using this⟩; rw [show ([] ++ [x] : List Int).length = 0 + 1 from rfl] at hcall; refine hcall.mono ?_; rintro e w6 ⟨v6, ok, rfl, hans, hb6⟩; have H6 := Lib.hid (And.intro (H5.out.1.trans (hb6.mono H5.out.1.size)) (And.intro hans (H5.out.2.2.trans (hb6.mono H5.out.2.2.size)))); clear hans hb6)
              | (refine step_append_grows rfl _ _ 22 rfl 3 i0 (.int .i64 0) 1 8 Try.underlying22 hi0 hz0 hz1 hz2 rfl (by decide) none 0 0 (zs []) rfl (fun _ => ⟨rfl, rfl⟩) rfl HOL.out ⟨wr.heap.size, 0, none⟩ 1 1 [.int .i64 x] rfl rfl HNW.out (by simp [Value.oneCell']) (by omega) (by unfold maxLen; omega) (by omega) ?_; intro v5 w5 ho5 hg5; have H5 := Lib.hid (And.intro (below_only (HD.out.alloc HD.out.size (.cells #[.int .i64 x] 3)) hg5 (fun i e => by cases e) (HD.out.alloc HD.out.size _).size) (And.intro ho5 (below_only ((below_drewN HBR.out 1).alloc HBR.out.size (.cells #[.int .i64 x] 3)) hg5 (fun i e => by cases e) (by have := HBR.out.size; simp; omega)))); obtain ⟨a5, c5, hv5⟩ := own_shape ho5; subst hv5; clear ho5 hg5))
          have hans := H6.out.2.1
          cases hres : holeF l lo hi r (([] : List Int) ++ [x]) with
          | some q =>
            rw [hres] at hans
            obtain ⟨rfl, hoq⟩ := hans
            have HQ := Lib.hid hoq
            have HRES := Lib.hid hres
            clear hoq hres
            go_wp2_with fail
            go_ret2
            refine ⟨_, true, rfl, ?_, HBW.out.trans (H6.out.1.mono HBW.out.size)⟩
            unfold holeF
            rw [HSTE.out, firstSome_take _ ST k hlt HNO.out q (by rw [HX.out]; exact HRES.out)]
            exact ⟨rfl, own_base HQ.out (Nat.le_trans HBW.out.size H5.out.1.size)⟩
          | none =>
            rw [hres] at hans
            have hok : ok = false := hans
            subst hok
            have HRES := Lib.hid hres
            clear hans hres
            go_wp2_with fail
            go_roundg (ST.length - (k + 1))
            case rel =>
              refine ⟨k + 1, by omega, by omega, by go_num, H6.out.2.2, fun y hy => ?_⟩
              rw [List.take_add_one, List.getElem?_eq_getElem hlt] at hy
              rcases List.mem_append.1 hy with h | h
              · exact HNO.out y h
              · simp only [Option.toList_some, List.mem_singleton] at h
                rw [h, HX.out]
                exact HRES.out
            case measure => have := HG.out; omega
        | some pad =>
          go_wp2_with fail
          go_region_held3 (fun w' => w'.cell? ⟨w.heap.size + 1, 0, none⟩ = some (.slice (some pad) p.length pc) ∧ w'.cell? ⟨w.heap.size, 0, none⟩ = some (.slice A0 lo.length c0) ∧ w'.cell? ⟨w.heap.size, 1, none⟩ = some (.slice A1 hi.length c1))
            (first | exact HK.out _ HD.out | exact HK.out _ (HD.out.alloc HD.out.size _) | exact HK.out _ H5.out.1 | exact HK.out _ H6.out.1)
            (first
              | (go_at_call 18; have hcall := HIH.out (p ++ [x]) a5 c5 w5 (Kd.C_below HCC.out.1 H5.out.1) (Kd.C_below HCC.out.2.1 H5.out.1) (Kd.C_below HCC.out.2.2 H5.out.1) (by have := HPL.out; simp at this ⊢; omega) ⟨_, by have := H5.out.2.1; simpa [zs] using this⟩; rw [show (p ++ [x]).length = p.length + 1 by simp] at hcall; refine hcall.mono ?_; rintro e w6 ⟨v6, ok, rfl, hans, hb6⟩; have H6 := Lib.hid (And.intro (H5.out.1.trans (hb6.mono H5.out.1.size)) (And.intro hans (H5.out.2.2.trans (hb6.mono H5.out.2.2.size)))); clear hans hb6)
              | (refine step_append_grows rfl _ _ 22 rfl 3 i0 (.int .i64 0) 1 8 Try.underlying22 hi0 hz0 hz1 hz2 rfl (by decide) (some pad) p.length p.length (zs p) rfl (fun e => by cases e) (by rw [zs_length, Nat.mul_one]) HOL.out ⟨wr.heap.size, 0, none⟩ 1 1 [.int .i64 x] rfl rfl HNW.out (by simp [Value.oneCell']) (by omega) (by unfold maxLen; omega) (by omega) ?_; intro v5 w5 ho5 hg5; have H5 := Lib.hid (And.intro (below_only (HD.out.alloc HD.out.size (.cells #[.int .i64 x] 3)) hg5 (fun i e => by cases e) (HD.out.alloc HD.out.size _).size) (And.intro ho5 (below_only ((below_drewN HBR.out 1).alloc HBR.out.size (.cells #[.int .i64 x] 3)) hg5 (fun i e => by cases e) (by have := HBR.out.size; simp; omega)))); obtain ⟨a5, c5, hv5⟩ := own_shape ho5; subst hv5; clear ho5 hg5))
          have hans := H6.out.2.1
          cases hres : holeF l lo hi r (p ++ [x]) with
          | some q =>
            rw [hres] at hans
            obtain ⟨rfl, hoq⟩ := hans
            have HQ := Lib.hid hoq
            have HRES := Lib.hid hres
            clear hoq hres
            go_wp2_with fail
            go_ret2
            refine ⟨_, true, rfl, ?_, HBW.out.trans (H6.out.1.mono HBW.out.size)⟩
            unfold holeF
            rw [HSTE.out, firstSome_take _ ST k hlt HNO.out q (by rw [HX.out]; exact HRES.out)]
            exact ⟨rfl, own_base HQ.out (Nat.le_trans HBW.out.size H5.out.1.size)⟩
          | none =>
            rw [hres] at hans
            have hok : ok = false := hans
            subst hok
            have HRES := Lib.hid hres
            clear hans hres
            go_wp2_with fail
            go_roundg (ST.length - (k + 1))
            case rel =>
              refine ⟨k + 1, by omega, by omega, by go_num, H6.out.2.2, fun y hy => ?_⟩
              rw [List.take_add_one, List.getElem?_eq_getElem hlt] at hy
              rcases List.mem_append.1 hy with h | h
              · exact HNO.out y h
              · simp only [Option.toList_some, List.mem_singleton] at h
                rw [h, HX.out]
                exact HRES.out
            case measure => have := HG.out; omega
      · have hkl : k = ST.length := by omega
        subst hkl
        go_wp2_with fail
        go_ret2
        refine ⟨_, false, rfl, ?_, HBW.out.trans (HB2.out.mono HBW.out.size)⟩
        unfold holeF
        rw [HSTE.out, firstSome_none _ ST (fun y hy => HNO.out y (by rw [List.take_length]; exact hy))]
        rfl
end Go.Proofs.Ytjikkeajhogcdaa
