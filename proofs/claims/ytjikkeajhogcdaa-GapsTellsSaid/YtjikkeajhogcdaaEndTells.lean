/- GapsTells answers true of whatever boxes and point; plain Lean over the printed models, then the walk; conditions: they lie in the world. -/
import Derived.Test.YtjikkeajhogcdaaOv
import Derived.Test.YtjikkeajhogcdaaWalkTells
namespace Go.Proofs.Ytjikkeajhogcdaa
open Go.RowKit Go.Proofs.YtjikkeajhogcdaaW.PrintWords Go.Proofs.YtjikkeajhogcdaaW.PrintLast Go.Proofs.YtjikkeajhogcdaaW.PrintMore PGapsTells
theorem best_len {l : List S25} {lo hi : List Int} : ∀ {r : Nat} {p q : List Int}, Best l lo hi r p q → q.length = p.length + r
  | 0, _, _, h => by rw [h.1]; rfl
  | r + 1, p, q, ⟨x, _, _, h, _⟩ => by
    have := best_len h
    simp at this
    omega
theorem ans_len {l : List S25} {lo hi : List Int} (hG : Good l lo hi) : (ansOf (holeF l lo hi lo.length [])).1.length ≤ 3 := by
  have h3 := hG.whole.n3
  rcases holeF_best (wholeLe hG) lo.length [] (by simp) with ⟨h, _⟩ | ⟨q, h, hb⟩
  · rw [h]
    simp [ansOf]
  · rw [h]
    have := best_len hb
    simp [ansOf]
    simp at this
    omega
theorem isB_of {lo hi : List Int} (h : IsBox lo hi) : isB lo hi = true := by
  have hn : ∀ (n i : Nat), i + n = lo.length → isFrom lo hi i n = true := by
    intro n
    induction n with
    | zero => exact fun _ _ => rfl
    | succ n ih =>
      intro i e
      have := h.num i (by omega)
      rw [isFrom, if_neg (by omega), if_neg (by omega), if_neg (by omega)]
      exact ih (i + 1) (by omega)
  have h1 := h.n1
  have h3 := h.n3
  have hs := h.same
  unfold isB
  rw [if_neg (by omega), if_neg (by omega), if_neg (by simpa using hs)]
  exact hn lo.length 0 (by omega)
theorem tells_no (l : List S25) (lo hi p : List Int) : Ev (fun k => dossierlaw9_GapsTells.j0 k l p true lo hi) true := by
  by_cases h : 10 < lo.length
  · exact Ev.succ (G := fun _ => some true) (fun k => by rw [dossierlaw9_GapsTells.j0, if_pos rfl, if_pos (by omega)]) (Ev.now _)
  · refine Ev.succ (fun k => by rw [dossierlaw9_GapsTells.j0, if_pos rfl, if_neg (by omega)]) (Ev.bind (gis lo hi) (Ev.bind (ris lo hi) ?_))
    exact Ev.same (fun k => by rw [if_pos (by simp)]) known_ev
theorem tells_yes {l : List S25} {lo hi : List Int} (hG : Good l lo hi) (p : List Int) : Ev (fun k => dossierlaw9_GapsTells.j0 k l p false lo hi) true := by
  have h3 := hG.whole.n3
  have hs := hG.whole.same
  have hlen := ans_len hG
  refine Ev.succ (fun k => by rw [dossierlaw9_GapsTells.j0, if_neg (by decide)]) (Ev.bind (ghole hG) (Ev.bind (rhole hG) (Ev.bind (gov hG) (Ev.bind (rov hG) (Ev.bind (ints_same (ansOf (holeF l lo hi lo.length [])).1 (by omega)) ?_)))))
  refine Ev.same (fun k => by rw [if_pos rfl, if_pos (by simp), if_pos rfl, if_pos rfl, if_pos (by simp)]) (Ev.bind (gin lo hi p hs (by omega)) (Ev.bind (rin lo hi p hs (by omega)) ?_))
  refine Ev.same (fun k => by rw [if_pos (by simp)]) (Ev.bind (gis lo hi) ?_)
  exact Ev.same (fun k => by rw [if_pos (isB_of hG.whole)]) known_ev
theorem tells_true (l : List S25) (lo hi p : List Int) : ∃ k, dossierlaw9_GapsTells.f k l lo hi p = some true := by
  apply Ev.get
  rcases may l lo hi with ⟨h, hG⟩ | h
  · refine Ev.bind h ?_
    by_cases hp : 10 < p.length
    · exact Ev.same (fun k => by rw [if_pos rfl, decide_eq_true (by omega)]) (tells_no l lo hi p)
    · exact Ev.same (fun k => by rw [if_pos rfl, decide_eq_false (by omega)]) (tells_yes hG p)
  · exact Ev.bind h (Ev.same (fun k => by rw [if_neg (by decide)]) (tells_no l lo hi p))
theorem tells_walk (A : Option Addr) (c : Nat) (l : List S25) (A0 : Option Addr) (c0 : Nat) (lo : List Int) (A1 : Option Addr) (c1 : Nat) (hi : List Int) (A2 : Option Addr) (c2 : Nat) (p : List Int) (w : World)
    (gl : l.length ≤ c) (hl : Kd.C k25 w A l.length l) (g0 : lo.length ≤ c0) (h0 : Kd.C (Kd.int .i64) w A0 lo.length lo) (g1 : hi.length ≤ c1) (h1 : Kd.C (Kd.int .i64) w A1 hi.length hi) (g2 : p.length ≤ c2) (h2 : Kd.C (Kd.int .i64) w A2 p.length p) :
    Calls Try.prog 4 #[.slice A l.length c, .agg #[.slice A0 lo.length c0, .slice A1 hi.length c1], .slice A2 p.length c2] w fun e w' => e = .returned (.bool true) ∧ Below w.heap.size w w' := by
  obtain ⟨k, hk⟩ := tells_true l lo hi p
  exact dossierlaw9_GapsTells.calls k A c l A0 c0 lo A1 c1 hi A2 c2 p true w hl gl h0 g0 h1 g1 h2 g2 (Aside0.mk rfl) hk
end Go.Proofs.Ytjikkeajhogcdaa
