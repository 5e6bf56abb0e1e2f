/- In by both: plain Lean over the printed models. -/
import Derived.Test.YtjikkeajhogcdaaSBase
import Derived.Test.YtjikkeajhogcdaaPGapsTellsx10
import Derived.Test.YtjikkeajhogcdaaPGapsTellsx13
namespace Go.Proofs.Ytjikkeajhogcdaa
open Go.RowKit Go.Proofs.YtjikkeajhogcdaaW.PrintWords Go.Proofs.YtjikkeajhogcdaaW.PrintLast Go.Proofs.YtjikkeajhogcdaaW.PrintMore PGapsTells
theorem gin (lo hi p : List Int) (h : hi.length = lo.length) (hn : lo.length ≤ 1000) : Ev (fun k => gaps_In.f k lo hi p) (inB lo hi p) := by
  unfold inB
  by_cases hp : p.length = lo.length
  · rw [if_pos hp]
    have hl : ∀ (n i : Nat), i + n = p.length → Ev (fun k => gaps_In.l0 k p (p.length : Int) (i : Int) lo hi) (inFrom lo hi p i n) := by
      intro n
      induction n with
      | zero => exact fun i e => Ev.succ (G := fun _ => some true) (fun k => by rw [gaps_In.l0, if_neg (by omega)]) (Ev.now _)
      | succ n ih =>
        intro i e
        unfold inFrom
        have hc : ∀ k, gaps_In.l0 (k + 1) p (p.length : Int) (i : Int) lo hi = if at_ p i < at_ lo i then some false else if at_ hi i < at_ p i then some false else gaps_In.l0 k p (p.length : Int) ((i + 1 : Nat) : Int) lo hi := fun k => by
          rw [gaps_In.l0, if_pos (by omega), if_pos (by omega), if_pos (by omega), if_pos (by omega)]
          simp only [rd_at, up (show i ≤ 1000000 by omega), if_pos (show (i : Int) < (hi.length : Int) by omega), gt_iff_lt]
        refine Ev.succ hc ?_
        by_cases h1 : at_ p i < at_ lo i
        · simp only [h1, if_true]
          exact Ev.now _
        · by_cases h2 : at_ hi i < at_ p i
          · simp only [h1, h2, if_true, if_false]
            exact Ev.now _
          · simp only [h1, h2, if_false]
            exact ih (i + 1) (by omega)
    exact Ev.same (fun k => by rw [gaps_In.f, if_pos (by omega)]; rfl) (hl p.length 0 (by omega))
  · rw [if_neg hp]
    exact Ev.same (G := fun _ => some false) (fun k => by rw [gaps_In.f, if_neg (by omega)]) (Ev.now _)
theorem rin (lo hi p : List Int) (h : hi.length = lo.length) (hn : lo.length ≤ 1000) : Ev (fun k => dossierref9_In.f k lo hi p) (inB lo hi p) := by
  unfold inB
  by_cases hp : p.length = lo.length
  · rw [if_pos hp]
    have hl : ∀ (n i : Nat), i + n = p.length → Ev (fun k => dossierref9_In.l0 k p (i : Int) lo hi) (inFrom lo hi p i n) := by
      intro n
      induction n with
      | zero => exact fun i e => Ev.succ (G := fun _ => some true) (fun k => by rw [dossierref9_In.l0, if_neg (by omega)]) (Ev.now _)
      | succ n ih =>
        intro i e
        unfold inFrom
        have hc : ∀ k, dossierref9_In.l0 (k + 1) p (i : Int) lo hi = if at_ p i < at_ lo i then some false else if at_ hi i < at_ p i then some false else dossierref9_In.l0 k p ((i + 1 : Nat) : Int) lo hi := fun k => by
          rw [dossierref9_In.l0, if_pos (by omega), if_pos (by omega), if_pos (by omega)]
          simp only [rd_at, up (show i ≤ 1000000 by omega), if_pos (show (i : Int) < (hi.length : Int) by omega), gt_iff_lt]
        refine Ev.succ hc ?_
        by_cases h1 : at_ p i < at_ lo i
        · simp only [h1, if_true]
          exact Ev.now _
        · by_cases h2 : at_ hi i < at_ p i
          · simp only [h1, h2, if_true, if_false]
            exact Ev.now _
          · simp only [h1, h2, if_false]
            exact ih (i + 1) (by omega)
    exact Ev.same (fun k => by rw [dossierref9_In.f, if_pos (by omega)]; rfl) (hl p.length 0 (by omega))
  · rw [if_neg hp]
    exact Ev.same (G := fun _ => some false) (fun k => by rw [dossierref9_In.f, if_neg (by omega)]) (Ev.now _)
end Go.Proofs.Ytjikkeajhogcdaa
