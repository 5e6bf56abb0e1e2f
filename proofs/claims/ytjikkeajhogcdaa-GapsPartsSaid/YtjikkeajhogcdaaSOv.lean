/- gaps.Overlap: plain Lean over the printed models. -/
import Derived.Test.YtjikkeajhogcdaaSBase
import Derived.Test.YtjikkeajhogcdaaPGapsTellsx7
namespace Go.Proofs.Ytjikkeajhogcdaa
open Go.RowKit Go.Proofs.YtjikkeajhogcdaaW.PrintWords Go.Proofs.YtjikkeajhogcdaaW.PrintLast Go.Proofs.YtjikkeajhogcdaaW.PrintMore PGapsTells
def meetFrom (a b : S25) (i : Nat) : Nat → Bool
  | 0 => true
  | n + 1 => if mn (at_ a.f1 i) (at_ b.f1 i) < mx (at_ a.f0 i) (at_ b.f0 i) then false else meetFrom a b (i + 1) n
def meetB (a b : S25) : Bool := meetFrom a b 0 a.f0.length
theorem gmeet {a b : S25} (ha : IsBox a.f0 a.f1) (hb : IsBox b.f0 b.f1) (he : b.f0.length = a.f0.length) : Ev (fun k => gaps_meet.f k a.f0 a.f1 b.f0 b.f1) (meetB a b) := by
  have h3 := ha.n3
  have hsa := ha.same
  have hsb := hb.same
  have hl : ∀ (n i : Nat), i + n = a.f0.length → Ev (fun k => gaps_meet.l0 k (a.f0.length : Int) (i : Int) a.f0 a.f1 b.f0 b.f1) (meetFrom a b i n) := by
    intro n
    induction n with
    | zero => exact fun i e => Ev.succ (G := fun _ => some true) (fun k => by rw [gaps_meet.l0, if_neg (by omega)]) (Ev.now _)
    | succ n ih =>
      intro i e
      have hc : ∀ k, gaps_meet.l0 (k + 1) (a.f0.length : Int) (i : Int) a.f0 a.f1 b.f0 b.f1 = if mn (at_ a.f1 i) (at_ b.f1 i) < mx (at_ a.f0 i) (at_ b.f0 i) then some false else gaps_meet.l0 k (a.f0.length : Int) ((i + 1 : Nat) : Int) a.f0 a.f1 b.f0 b.f1 := fun k => by
        rw [gaps_meet.l0, if_pos (by omega), if_pos (by omega), if_pos (by omega), if_pos (by omega), if_pos (by omega), if_pos (by omega)]
        simp only [rd_at, up (show i ≤ 1000000 by omega), gt_iff_lt]
      unfold meetFrom
      by_cases h : mn (at_ a.f1 i) (at_ b.f1 i) < mx (at_ a.f0 i) (at_ b.f0 i)
      · rw [if_pos h]
        exact Ev.succ (G := fun _ => some false) (fun k => by rw [hc, if_pos h]) (Ev.now _)
      · rw [if_neg h]
        exact Ev.succ (fun k => by rw [hc, if_neg h]) (ih (i + 1) (by omega))
  exact Ev.same (fun k => by rw [gaps_meet.f]; rfl) (hl a.f0.length 0 (by omega))
/-- Whom box i meets first, from box k on. -/
def ovIn (l : List S25) (i : Nat) : Nat → Nat → Option Nat
  | _, 0 => none
  | k, n + 1 => if meetB (bx l i) (bx l k) = true then some k else ovIn l i (k + 1) n
def ovOut (l : List S25) : Nat → Nat → Option (Nat × Nat)
  | _, 0 => none
  | i, n + 1 => match ovIn l i (i + 1) n with
    | some k => some (i, k)
    | none => ovOut l (i + 1) n
def ovAns : Option (Nat × Nat) → Int × Int × Bool
  | some (i, k) => (i, k, true)
  | none => (0, 0, false)
theorem gov_l1 {l : List S25} {lo hi : List Int} (hG : Good l lo hi) (i : Nat) (hi' : i < l.length) (R : Int × Int × Bool) (h : Ev (fun k => gaps_Overlap.l0 k l (l.length : Int) ((i + 1 : Nat) : Int)) R) :
    ∀ (n kk : Nat), kk + n = l.length → Ev (fun k => gaps_Overlap.l1 k l (i : Int) (kk : Int) (l.length : Int) (i : Int)) (match ovIn l i kk n with | some k' => ((i : Int), (k' : Int), true) | none => R) := by
  have h8 := hG.n
  intro n
  induction n with
  | zero =>
    intro kk e
    exact Ev.succ (fun k => by rw [gaps_Overlap.l1, if_neg (by omega), up (by omega)]) h
  | succ n ih =>
    intro kk e
    obtain ⟨ha, hna⟩ := hG.bx hi'
    obtain ⟨hb, hnb⟩ := hG.bx (show kk < l.length by omega)
    have hm := gmeet ha hb (by omega)
    have hc : ∀ k, gaps_Overlap.l1 (k + 1) l (i : Int) (kk : Int) (l.length : Int) (i : Int) = (gaps_meet.f k (bx l i).f0 (bx l i).f1 (bx l kk).f0 (bx l kk).f1).bind fun t => if t = true then some ((i : Int), (kk : Int), true) else gaps_Overlap.l1 k l (i : Int) ((kk + 1 : Nat) : Int) (l.length : Int) (i : Int) := fun k => by
      rw [gaps_Overlap.l1, if_pos (by omega), if_pos (by omega), if_pos (by omega), if_pos (by omega)]
      simp only [rd_bx, up (show kk ≤ 1000000 by omega)]
    refine Ev.succ hc (Ev.bind hm ?_)
    unfold ovIn
    cases meetB (bx l i) (bx l kk) with
    | true => exact Ev.now _
    | false => exact ih (kk + 1) (by omega)
theorem gov_l0 {l : List S25} {lo hi : List Int} (hG : Good l lo hi) : ∀ (n i : Nat), i + n = l.length → Ev (fun k => gaps_Overlap.l0 k l (l.length : Int) (i : Int)) (ovAns (ovOut l i n)) := by
  have h8 := hG.n
  intro n
  induction n with
  | zero => exact fun i e => Ev.succ (G := fun _ => some (0, 0, false)) (fun k => by rw [gaps_Overlap.l0, if_neg (by omega)]) (Ev.now _)
  | succ n ih =>
    intro i e
    have h := gov_l1 hG i (by omega) _ (ih (i + 1) (by omega)) n (i + 1) (by omega)
    have hR : ovAns (ovOut l i (n + 1)) = match ovIn l i (i + 1) n with | some k' => ((i : Int), (k' : Int), true) | none => ovAns (ovOut l (i + 1) n) := by
      rw [ovOut]
      cases ovIn l i (i + 1) n <;> rfl
    rw [hR]
    exact Ev.succ (fun k => by rw [gaps_Overlap.l0, if_pos (by omega), up (by omega)]) h
theorem gov {l : List S25} {lo hi : List Int} (hG : Good l lo hi) : Ev (fun k => gaps_Overlap.f k l) (ovAns (ovOut l 0 l.length)) :=
  Ev.same (fun k => by rw [gaps_Overlap.f]; rfl) (gov_l0 hG l.length 0 (by omega))
end Go.Proofs.Ytjikkeajhogcdaa
