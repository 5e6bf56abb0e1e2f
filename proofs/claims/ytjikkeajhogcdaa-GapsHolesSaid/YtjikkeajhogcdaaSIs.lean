/- Is by both, and may: plain Lean over the printed models. -/
import Derived.Test.YtjikkeajhogcdaaSBase
import Derived.Test.YtjikkeajhogcdaaPGapsTellsx8
import Derived.Test.YtjikkeajhogcdaaPGapsTellsx9
import Derived.Test.YtjikkeajhogcdaaPGapsTellsx10
namespace Go.Proofs.Ytjikkeajhogcdaa
open Go.RowKit Go.Proofs.YtjikkeajhogcdaaW.PrintWords Go.Proofs.YtjikkeajhogcdaaW.PrintLast Go.Proofs.YtjikkeajhogcdaaW.PrintMore PGapsTells
theorem gis_l0 (lo hi : List Int) (h : hi.length = lo.length) (h3 : lo.length ≤ 3) : ∀ (n i : Nat), i + n = lo.length → Ev (fun k => gaps_Is.l0 k lo (lo.length : Int) (i : Int) lo hi) (isFrom lo hi i n)
  | 0, i, e => Ev.succ (G := fun _ => some true) (fun k => by rw [gaps_Is.l0, if_neg (by omega)]) (Ev.now _)
  | n + 1, i, e => by
    have ih := gis_l0 lo hi h h3 n (i + 1) (by omega)
    unfold isFrom
    have hc : ∀ k, gaps_Is.l0 (k + 1) lo (lo.length : Int) (i : Int) lo hi = if at_ lo i < 0 then some false else if at_ hi i < at_ lo i then some false else if 1000 < at_ hi i then some false else gaps_Is.l0 k lo (lo.length : Int) ((i + 1 : Nat) : Int) lo hi := fun k => by
      rw [gaps_Is.l0, if_pos (by omega), if_pos (by omega), if_pos (by omega)]
      simp only [rd_at, up (show i ≤ 1000000 by omega), if_pos (show (i : Int) < (hi.length : Int) by omega), gt_iff_lt]
    refine Ev.succ hc ?_
    by_cases h1 : at_ lo i < 0
    · simp only [h1, if_true]
      exact Ev.now _
    · by_cases h2 : at_ hi i < at_ lo i
      · simp only [h1, h2, if_true, if_false]
        exact Ev.now _
      · by_cases h4 : 1000 < at_ hi i
        · simp only [h1, h2, h4, if_true, if_false]
          exact Ev.now _
        · simp only [h1, h2, h4, if_false]
          exact ih
theorem gis (lo hi : List Int) : Ev (fun k => gaps_Is.f k lo hi) (isB lo hi) := by
  unfold isB
  by_cases h1 : lo.length < 1
  · refine Ev.same (G := fun k => gaps_Is.j0 k true lo hi) (fun k => by rw [gaps_Is.f, if_pos (by omega)]) (Ev.succ (G := fun _ => some false) (fun k => by rw [gaps_Is.j0, if_pos rfl]) ?_)
    rw [if_pos h1]
    exact Ev.now _
  · by_cases h2 : 3 < lo.length
    · refine Ev.same (G := fun k => gaps_Is.j0 k true lo hi) (fun k => by rw [gaps_Is.f, if_neg (by omega), if_pos (by omega)]) (Ev.succ (G := fun _ => some false) (fun k => by rw [gaps_Is.j0, if_pos rfl]) ?_)
      rw [if_neg h1, if_pos h2]
      exact Ev.now _
    · by_cases h3 : hi.length = lo.length
      · refine Ev.same (G := fun k => gaps_Is.j0 k false lo hi) (fun k => by rw [gaps_Is.f, if_neg (by omega), if_neg (by omega)]; simp [h3]) (Ev.succ (G := fun k => gaps_Is.l0 k lo (lo.length : Int) ((0 : Nat) : Int) lo hi) (fun k => by rw [gaps_Is.j0, if_neg (by decide)]; rfl) ?_)
        rw [if_neg h1, if_neg h2, if_neg (by simpa using h3)]
        exact gis_l0 lo hi h3 (by omega) lo.length 0 (by omega)
      · refine Ev.same (G := fun k => gaps_Is.j0 k true lo hi) (fun k => by rw [gaps_Is.f, if_neg (by omega), if_neg (by omega)]; congr 1; simp; omega) (Ev.succ (G := fun _ => some false) (fun k => by rw [gaps_Is.j0, if_pos rfl]) ?_)
        rw [if_neg h1, if_neg h2, if_pos (by simpa using h3)]
        exact Ev.now _
theorem ris_l0 (lo hi : List Int) (h : hi.length = lo.length) (h3 : lo.length ≤ 3) : ∀ (n i : Nat), i + n = lo.length → Ev (fun k => dossierref9_Is.l0 k (i : Int) lo hi) (isFrom lo hi i n)
  | 0, i, e => Ev.succ (G := fun _ => some true) (fun k => by rw [dossierref9_Is.l0, if_neg (by omega)]) (Ev.now _)
  | n + 1, i, e => by
    have ih := ris_l0 lo hi h h3 n (i + 1) (by omega)
    unfold isFrom
    have hc : ∀ k, dossierref9_Is.l0 (k + 1) (i : Int) lo hi = if at_ lo i < 0 then some false else if at_ hi i < at_ lo i then some false else if 1000 < at_ hi i then some false else dossierref9_Is.l0 k ((i + 1 : Nat) : Int) lo hi := fun k => by
      rw [dossierref9_Is.l0, if_pos (by omega), if_pos (by omega)]
      simp only [rd_at, up (show i ≤ 1000000 by omega), if_pos (show (i : Int) < (hi.length : Int) by omega), gt_iff_lt]
    refine Ev.succ hc ?_
    by_cases h1 : at_ lo i < 0
    · simp only [h1, if_true]
      exact Ev.now _
    · by_cases h2 : at_ hi i < at_ lo i
      · simp only [h1, h2, if_true, if_false]
        exact Ev.now _
      · by_cases h4 : 1000 < at_ hi i
        · simp only [h1, h2, h4, if_true, if_false]
          exact Ev.now _
        · simp only [h1, h2, h4, if_false]
          exact ih
theorem ris (lo hi : List Int) : Ev (fun k => dossierref9_Is.f k lo hi) (isB lo hi) := by
  unfold isB
  by_cases h1 : lo.length < 1
  · refine Ev.same (G := fun k => dossierref9_Is.j0 k true lo hi) (fun k => by rw [dossierref9_Is.f, if_pos (by omega)]) (Ev.succ (G := fun _ => some false) (fun k => by rw [dossierref9_Is.j0, if_pos rfl]) ?_)
    rw [if_pos h1]
    exact Ev.now _
  · by_cases h2 : 3 < lo.length
    · refine Ev.same (G := fun k => dossierref9_Is.j0 k true lo hi) (fun k => by rw [dossierref9_Is.f, if_neg (by omega), if_pos (by omega)]) (Ev.succ (G := fun _ => some false) (fun k => by rw [dossierref9_Is.j0, if_pos rfl]) ?_)
      rw [if_neg h1, if_pos h2]
      exact Ev.now _
    · by_cases h3 : hi.length = lo.length
      · refine Ev.same (G := fun k => dossierref9_Is.j0 k false lo hi) (fun k => by rw [dossierref9_Is.f, if_neg (by omega), if_neg (by omega)]; simp [h3]) (Ev.succ (G := fun k => dossierref9_Is.l0 k ((0 : Nat) : Int) lo hi) (fun k => by rw [dossierref9_Is.j0, if_neg (by decide)]; rfl) ?_)
        rw [if_neg h1, if_neg h2, if_neg (by simpa using h3)]
        exact ris_l0 lo hi h3 (by omega) lo.length 0 (by omega)
      · refine Ev.same (G := fun k => dossierref9_Is.j0 k true lo hi) (fun k => by rw [dossierref9_Is.f, if_neg (by omega), if_neg (by omega)]; congr 1; simp; omega) (Ev.succ (G := fun _ => some false) (fun k => by rw [dossierref9_Is.j0, if_pos rfl]) ?_)
        rw [if_neg h1, if_neg h2, if_pos (by simpa using h3)]
        exact Ev.now _
theorem may_l0 (l : List S25) (lo hi : List Int) (h8 : l.length ≤ 8) : ∀ (n i : Nat), i + n = l.length → (Ev (fun k => dossierlaw9_may.l0 k l (i : Int) lo hi) true ∧ ∀ j, i ≤ j → j < l.length → isB (bx l j).f0 (bx l j).f1 = true ∧ (bx l j).f0.length = lo.length) ∨ Ev (fun k => dossierlaw9_may.l0 k l (i : Int) lo hi) false
  | 0, i, e => .inl ⟨Ev.succ (G := fun _ => some true) (fun k => by rw [dossierlaw9_may.l0, if_neg (by omega)]) (Ev.now _), fun j _ _ => by omega⟩
  | n + 1, i, e => by
    by_cases h1 : 10 < (bx l i).f0.length
    · refine .inr (Ev.succ (G := fun _ => some false) (fun k => by rw [dossierlaw9_may.l0, if_pos (by omega), if_pos (by omega), rd_bx, if_pos (by omega)]) (Ev.now _))
    · have hc : ∀ k, dossierlaw9_may.l0 (k + 1) l (i : Int) lo hi = (dossierref9_Is.f k (bx l i).f0 (bx l i).f1).bind fun t => if t = true then (if ((bx l i).f0.length : Int) = (lo.length : Int) then dossierlaw9_may.l0 k l ((i + 1 : Nat) : Int) lo hi else some false) else some false := fun k => by
        rw [dossierlaw9_may.l0, if_pos (by omega), if_pos (by omega), rd_bx, if_neg (by omega), up (by omega)]
      have hI := ris (bx l i).f0 (bx l i).f1
      cases h2 : isB (bx l i).f0 (bx l i).f1 with
      | false =>
        rw [h2] at hI
        exact .inr (Ev.succ hc (Ev.bind hI (Ev.now _)))
      | true =>
        rw [h2] at hI
        by_cases h3 : (bx l i).f0.length = lo.length
        · rcases may_l0 l lo hi h8 n (i + 1) (by omega) with ⟨ih, ha⟩ | ih
          · refine .inl ⟨Ev.succ hc (Ev.bind hI (Ev.same (fun k => by rw [if_pos rfl, if_pos (by omega)]) ih)), fun j h4 h5 => ?_⟩
            rcases Nat.eq_or_lt_of_le h4 with e | e
            · subst e
              exact ⟨h2, h3⟩
            · exact ha j e h5
          · exact .inr (Ev.succ hc (Ev.bind hI (Ev.same (fun k => by rw [if_pos rfl, if_pos (by omega)]) ih)))
        · exact .inr (Ev.succ hc (Ev.bind hI (Ev.same (G := fun _ => some false) (fun k => by rw [if_pos rfl, if_neg (by omega)]) (Ev.now _))))
theorem may (l : List S25) (lo hi : List Int) : (Ev (fun k => dossierlaw9_may.f k l lo hi) true ∧ Good l lo hi) ∨ Ev (fun k => dossierlaw9_may.f k l lo hi) false := by
  have hno : ∀ (f : Nat → Option Bool), (∀ k, f k = dossierlaw9_may.j0 k l true lo hi) → Ev f false := fun f h =>
    Ev.same h (Ev.succ (G := fun _ => some false) (fun k => by rw [dossierlaw9_may.j0, if_pos rfl]) (Ev.now _))
  by_cases h1 : 8 < l.length
  · exact .inr (hno _ fun k => by rw [dossierlaw9_may.f, if_pos (by omega)])
  · by_cases h2 : 10 < lo.length
    · exact .inr (hno _ fun k => by rw [dossierlaw9_may.f, if_neg (by omega), if_pos (by omega)])
    · have hc : ∀ k, dossierlaw9_may.f k l lo hi = (dossierref9_Is.f k lo hi).bind fun t => dossierlaw9_may.j0 k l (!t) lo hi := fun k => by
        rw [dossierlaw9_may.f, if_neg (by omega), if_neg (by omega)]
      have hI := ris lo hi
      cases h3 : isB lo hi with
      | false =>
        rw [h3] at hI
        exact .inr (Ev.same hc (Ev.bind hI (hno _ fun k => rfl)))
      | true =>
        rw [h3] at hI
        have hj : ∀ r, Ev (fun k => dossierlaw9_may.l0 k l ((0 : Nat) : Int) lo hi) r → Ev (fun k => dossierlaw9_may.f k l lo hi) r := fun r hr =>
          Ev.same hc (Ev.bind hI (Ev.succ (G := fun k => dossierlaw9_may.l0 k l ((0 : Nat) : Int) lo hi) (fun k => by simp [dossierlaw9_may.j0]) hr))
        rcases may_l0 l lo hi (by omega) l.length 0 (by omega) with ⟨h4, h5⟩ | h4
        · refine .inl ⟨hj _ h4, by omega, isBox h3, fun b hb => ?_⟩
          obtain ⟨j, hj', e⟩ := List.getElem_of_mem hb
          have h6 := h5 j (by omega) hj'
          have h7 : bx l j = b := by simp [bx, List.getD, hj', e]
          rw [h7] at h6
          exact ⟨isBox h6.1, h6.2⟩
        · exact .inr (hj _ h4)
end Go.Proofs.Ytjikkeajhogcdaa
