/- Overlap by both, and GapsMeets: plain Lean over the printed models, no machine. -/
import Derived.Test.YtjikkeajhogcdaaLeast
import Derived.Test.YtjikkeajhogcdaaWalkMeets
namespace Go.Proofs.Ytjikkeajhogcdaa
open Go.RowKit Go.Proofs.YtjikkeajhogcdaaW.PrintWords Go.Proofs.YtjikkeajhogcdaaW.PrintLast Go.Proofs.YtjikkeajhogcdaaW.PrintMore PGapsTells
def meetFrom (a b : S25) (i : Nat) : Nat → Bool
  | 0 => true
  | n + 1 => if mn (at_ a.f1 i) (at_ b.f1 i) < mx (at_ a.f0 i) (at_ b.f0 i) then false else meetFrom a b (i + 1) n
def meetB (a b : S25) : Bool := meetFrom a b 0 a.f0.length
theorem gmeet {a b : S25} (ha : IsBox a.f0 a.f1) (hb : IsBox b.f0 b.f1) (he : b.f0.length = a.f0.length) : Ev (fun k => gaps_meet.f k a.f0 a.f1 b.f0 b.f1) (meetB a b) := by
  have h3 := ha.n3
  have hsa := ha.same
  have hsb := hb.same
  have hl : ∀ (n i : Nat), i + n = a.f0.length → Ev (fun k => gaps_meet.l0 k (a.f0.length : Int) (i : Int) a.f0 a.f1 b.f0 b.f1) (meetFrom a b i n) := by
    intro n
    induction n with
    | zero => exact fun i e => Ev.succ (G := fun _ => some true) (fun k => by rw [gaps_meet.l0, if_neg (by omega)]) (Ev.now _)
    | succ n ih =>
      intro i e
      have hc : ∀ k, gaps_meet.l0 (k + 1) (a.f0.length : Int) (i : Int) a.f0 a.f1 b.f0 b.f1 = if mn (at_ a.f1 i) (at_ b.f1 i) < mx (at_ a.f0 i) (at_ b.f0 i) then some false else gaps_meet.l0 k (a.f0.length : Int) ((i + 1 : Nat) : Int) a.f0 a.f1 b.f0 b.f1 := fun k => by
        rw [gaps_meet.l0, if_pos (by omega), if_pos (by omega), if_pos (by omega), if_pos (by omega), if_pos (by omega), if_pos (by omega)]
        simp only [rd_at, up (show i ≤ 1000000 by omega), gt_iff_lt]
      unfold meetFrom
      by_cases h : mn (at_ a.f1 i) (at_ b.f1 i) < mx (at_ a.f0 i) (at_ b.f0 i)
      · rw [if_pos h]
        exact Ev.succ (G := fun _ => some false) (fun k => by rw [hc, if_pos h]) (Ev.now _)
      · rw [if_neg h]
        exact Ev.succ (fun k => by rw [hc, if_neg h]) (ih (i + 1) (by omega))
  exact Ev.same (fun k => by rw [gaps_meet.f]; rfl) (hl a.f0.length 0 (by omega))
theorem meet_two {a0 a1 b0 b1 : Int} (ha : a0 ≤ a1) (hb : b0 ≤ b1) : mn a1 b1 < mx a0 b0 ↔ b1 < a0 ∨ a1 < b0 := by
  unfold mn mx
  constructor
  · intro h
    split at h <;> split at h <;> omega
  · intro h
    split <;> split <;> omega
theorem rmeet {a b : S25} (ha : IsBox a.f0 a.f1) (hb : IsBox b.f0 b.f1) (he : b.f0.length = a.f0.length) : Ev (fun k => dossierref9_meet.f k a.f0 a.f1 b.f0 b.f1) (meetB a b) := by
  have h3 := ha.n3
  have hsa := ha.same
  have hsb := hb.same
  have hl : ∀ (n i : Nat), i + n = a.f0.length → Ev (fun k => dossierref9_meet.l0 k (i : Int) a.f0 a.f1 b.f0 b.f1) (meetFrom a b i n) := by
    intro n
    induction n with
    | zero => exact fun i e => Ev.succ (G := fun _ => some true) (fun k => by rw [dossierref9_meet.l0, if_neg (by omega)]) (Ev.now _)
    | succ n ih =>
      intro i e
      have hm := meet_two (ha.num i (by omega)).2.1 (hb.num i (by omega)).2.1
      have hc : ∀ k, dossierref9_meet.l0 (k + 1) (i : Int) a.f0 a.f1 b.f0 b.f1 = if at_ b.f1 i < at_ a.f0 i then some false else if at_ a.f1 i < at_ b.f0 i then some false else dossierref9_meet.l0 k ((i + 1 : Nat) : Int) a.f0 a.f1 b.f0 b.f1 := fun k => by
        rw [dossierref9_meet.l0, if_pos (by omega), if_pos (by omega), if_pos (by omega)]
        simp only [rd_at, up (show i ≤ 1000000 by omega), gt_iff_lt, if_pos (show (i : Int) < (b.f0.length : Int) by omega), if_pos (show (i : Int) < (a.f1.length : Int) by omega)]
      unfold meetFrom
      by_cases h1 : at_ b.f1 i < at_ a.f0 i
      · rw [if_pos (hm.2 (.inl h1))]
        exact Ev.succ (G := fun _ => some false) (fun k => by rw [hc, if_pos h1]) (Ev.now _)
      · by_cases h2 : at_ a.f1 i < at_ b.f0 i
        · rw [if_pos (hm.2 (.inr h2))]
          exact Ev.succ (G := fun _ => some false) (fun k => by rw [hc, if_neg h1, if_pos h2]) (Ev.now _)
        · rw [if_neg (fun h => by rcases hm.1 h with h | h <;> omega)]
          exact Ev.succ (fun k => by rw [hc, if_neg h1, if_neg h2]) (ih (i + 1) (by omega))
  exact Ev.same (fun k => by rw [dossierref9_meet.f]; rfl) (hl a.f0.length 0 (by omega))
/-- Whom box i meets first, from box k on. -/
def ovIn (l : List S25) (i : Nat) : Nat → Nat → Option Nat
  | _, 0 => none
  | k, n + 1 => if meetB (bx l i) (bx l k) = true then some k else ovIn l i (k + 1) n
def ovOut (l : List S25) : Nat → Nat → Option (Nat × Nat)
  | _, 0 => none
  | i, n + 1 => match ovIn l i (i + 1) n with
    | some k => some (i, k)
    | none => ovOut l (i + 1) n
def ovAns : Option (Nat × Nat) → Int × Int × Bool
  | some (i, k) => (i, k, true)
  | none => (0, 0, false)
theorem gov_l1 {l : List S25} {lo hi : List Int} (hG : Good l lo hi) (i : Nat) (hi' : i < l.length) (R : Int × Int × Bool) (h : Ev (fun k => gaps_Overlap.l0 k l (l.length : Int) ((i + 1 : Nat) : Int)) R) :
    ∀ (n kk : Nat), kk + n = l.length → Ev (fun k => gaps_Overlap.l1 k l (i : Int) (kk : Int) (l.length : Int) (i : Int)) (match ovIn l i kk n with | some k' => ((i : Int), (k' : Int), true) | none => R) := by
  have h8 := hG.n
  intro n
  induction n with
  | zero =>
    intro kk e
    exact Ev.succ (fun k => by rw [gaps_Overlap.l1, if_neg (by omega), up (by omega)]) h
  | succ n ih =>
    intro kk e
    obtain ⟨ha, hna⟩ := hG.bx hi'
    obtain ⟨hb, hnb⟩ := hG.bx (show kk < l.length by omega)
    have hm := gmeet ha hb (by omega)
    have hc : ∀ k, gaps_Overlap.l1 (k + 1) l (i : Int) (kk : Int) (l.length : Int) (i : Int) = (gaps_meet.f k (bx l i).f0 (bx l i).f1 (bx l kk).f0 (bx l kk).f1).bind fun t => if t = true then some ((i : Int), (kk : Int), true) else gaps_Overlap.l1 k l (i : Int) ((kk + 1 : Nat) : Int) (l.length : Int) (i : Int) := fun k => by
      rw [gaps_Overlap.l1, if_pos (by omega), if_pos (by omega), if_pos (by omega), if_pos (by omega)]
      simp only [rd_bx, up (show kk ≤ 1000000 by omega)]
    refine Ev.succ hc (Ev.bind hm ?_)
    unfold ovIn
    cases meetB (bx l i) (bx l kk) with
    | true => exact Ev.now _
    | false => exact ih (kk + 1) (by omega)
theorem gov_l0 {l : List S25} {lo hi : List Int} (hG : Good l lo hi) : ∀ (n i : Nat), i + n = l.length → Ev (fun k => gaps_Overlap.l0 k l (l.length : Int) (i : Int)) (ovAns (ovOut l i n)) := by
  have h8 := hG.n
  intro n
  induction n with
  | zero => exact fun i e => Ev.succ (G := fun _ => some (0, 0, false)) (fun k => by rw [gaps_Overlap.l0, if_neg (by omega)]) (Ev.now _)
  | succ n ih =>
    intro i e
    have h := gov_l1 hG i (by omega) _ (ih (i + 1) (by omega)) n (i + 1) (by omega)
    have hR : ovAns (ovOut l i (n + 1)) = match ovIn l i (i + 1) n with | some k' => ((i : Int), (k' : Int), true) | none => ovAns (ovOut l (i + 1) n) := by
      rw [ovOut]
      cases ovIn l i (i + 1) n <;> rfl
    rw [hR]
    exact Ev.succ (fun k => by rw [gaps_Overlap.l0, if_pos (by omega), up (by omega)]) h
theorem gov {l : List S25} {lo hi : List Int} (hG : Good l lo hi) : Ev (fun k => gaps_Overlap.f k l) (ovAns (ovOut l 0 l.length)) :=
  Ev.same (fun k => by rw [gaps_Overlap.f]; rfl) (gov_l0 hG l.length 0 (by omega))
theorem rov_l1 {l : List S25} {lo hi : List Int} (hG : Good l lo hi) (i : Nat) (hi' : i < l.length) (R : Int × Int × Bool) (h : Ev (fun k => dossierref9_Overlap.l0 k l ((i + 1 : Nat) : Int)) R) :
    ∀ (n kk : Nat), kk + n = l.length → Ev (fun k => dossierref9_Overlap.l1 k l (i : Int) (kk : Int)) (match ovIn l i kk n with | some k' => ((i : Int), (k' : Int), true) | none => R) := by
  have h8 := hG.n
  intro n
  induction n with
  | zero =>
    intro kk e
    exact Ev.succ (fun k => by rw [dossierref9_Overlap.l1, if_neg (by omega), up (by omega)]) h
  | succ n ih =>
    intro kk e
    obtain ⟨ha, hna⟩ := hG.bx hi'
    obtain ⟨hb, hnb⟩ := hG.bx (show kk < l.length by omega)
    have hm := rmeet ha hb (by omega)
    have hc : ∀ k, dossierref9_Overlap.l1 (k + 1) l (i : Int) (kk : Int) = (dossierref9_meet.f k (bx l i).f0 (bx l i).f1 (bx l kk).f0 (bx l kk).f1).bind fun t => if t = true then some ((i : Int), (kk : Int), true) else dossierref9_Overlap.l1 k l (i : Int) ((kk + 1 : Nat) : Int) := fun k => by
      rw [dossierref9_Overlap.l1, if_pos (by omega), if_pos (by omega), if_pos (by omega), if_pos (by omega)]
      simp only [rd_bx, up (show kk ≤ 1000000 by omega)]
    refine Ev.succ hc (Ev.bind hm ?_)
    unfold ovIn
    cases meetB (bx l i) (bx l kk) with
    | true => exact Ev.now _
    | false => exact ih (kk + 1) (by omega)
theorem rov_l0 {l : List S25} {lo hi : List Int} (hG : Good l lo hi) : ∀ (n i : Nat), i + n = l.length → Ev (fun k => dossierref9_Overlap.l0 k l (i : Int)) (ovAns (ovOut l i n)) := by
  have h8 := hG.n
  intro n
  induction n with
  | zero => exact fun i e => Ev.succ (G := fun _ => some (0, 0, false)) (fun k => by rw [dossierref9_Overlap.l0, if_neg (by omega)]) (Ev.now _)
  | succ n ih =>
    intro i e
    have h := rov_l1 hG i (by omega) _ (ih (i + 1) (by omega)) n (i + 1) (by omega)
    have hR : ovAns (ovOut l i (n + 1)) = match ovIn l i (i + 1) n with | some k' => ((i : Int), (k' : Int), true) | none => ovAns (ovOut l (i + 1) n) := by
      rw [ovOut]
      cases ovIn l i (i + 1) n <;> rfl
    rw [hR]
    exact Ev.succ (fun k => by rw [dossierref9_Overlap.l0, if_pos (by omega), up (by omega)]) h
theorem rov {l : List S25} {lo hi : List Int} (hG : Good l lo hi) : Ev (fun k => dossierref9_Overlap.f k l) (ovAns (ovOut l 0 l.length)) :=
  Ev.same (fun k => by rw [dossierref9_Overlap.f]; rfl) (rov_l0 hG l.length 0 (by omega))
/-! GapsMeets -/
theorem known_ev : Ev (fun _ : Nat => (dossierlaw9_known.f).bind fun t => (some t : Option Bool)) true := Ev.now true
theorem gm_l2 {l : List S25} {lo hi : List Int} (hG : Good l lo hi) (x5 x6 : Int) (x7 : Bool) (i kk : Nat) (hi' : i < l.length) (hk' : kk < l.length) :
    ∀ (n d : Nat) (acc : Bool), d + n = (bx l i).f0.length → ((acc && meetFrom (bx l i) (bx l kk) d n) = true → x7 = true ∧ x5 = i ∧ x6 = kk) → ((acc && meetFrom (bx l i) (bx l kk) d n) = false → Ev (fun k => dossierlaw9_GapsMeets.l1 k l x5 x6 x7 (i : Int) ((kk + 1 : Nat) : Int)) true) →
    Ev (fun k => dossierlaw9_GapsMeets.l2 k l x5 x6 x7 (i : Int) (kk : Int) acc (d : Int)) true := by
  have h8 := hG.n
  obtain ⟨ha, hna⟩ := hG.bx hi'
  obtain ⟨hb, hnb⟩ := hG.bx hk'
  have h3 := ha.n3
  have hsa := ha.same
  have hsb := hb.same
  intro n
  induction n with
  | zero =>
    intro d acc e ht hf
    have hc : ∀ k, dossierlaw9_GapsMeets.l2 (k + 1) l x5 x6 x7 (i : Int) (kk : Int) acc (d : Int) = if acc = true then (if x7 = true then (if x5 = (i : Int) then (if x6 = (kk : Int) then ((dossierlaw9_known.f).bind fun t => (some t)) else (some false)) else (some false)) else (some false)) else dossierlaw9_GapsMeets.l1 k l x5 x6 x7 (i : Int) ((kk + 1 : Nat) : Int) := fun k => by
      rw [dossierlaw9_GapsMeets.l2, if_pos (by omega), if_pos (by omega), rd_bx, if_neg (by omega), up (by omega)]
    refine Ev.succ hc ?_
    cases acc with
    | true =>
      obtain ⟨r1, r2, r3⟩ := ht rfl
      simp only [r1, r2, r3, if_true]
      exact known_ev
    | false => exact hf rfl
  | succ n ih =>
    intro d acc e ht hf
    have hc : ∀ k, dossierlaw9_GapsMeets.l2 (k + 1) l x5 x6 x7 (i : Int) (kk : Int) acc (d : Int) = if acc = true then dossierlaw9_GapsMeets.l2 k l x5 x6 x7 (i : Int) (kk : Int) (decide (mx (at_ (bx l i).f0 d) (at_ (bx l kk).f0 d) ≤ mn (at_ (bx l i).f1 d) (at_ (bx l kk).f1 d))) ((d + 1 : Nat) : Int) else dossierlaw9_GapsMeets.l2 k l x5 x6 x7 (i : Int) (kk : Int) false ((d + 1 : Nat) : Int) := fun k => by
      rw [dossierlaw9_GapsMeets.l2, if_pos (by omega), if_pos (by omega), rd_bx, if_pos (by omega)]
      simp only [rd_bx, rd_at, up (show d ≤ 1000000 by omega), if_pos (show (0 : Int) ≤ (d : Int) by omega), if_pos (show (0 : Int) ≤ (kk : Int) by omega), if_pos (show (kk : Int) < (l.length : Int) by omega), if_pos (show (d : Int) < ((bx l kk).f0.length : Int) by omega), if_pos (show (d : Int) < ((bx l i).f1.length : Int) by omega), if_pos (show (d : Int) < ((bx l kk).f1.length : Int) by omega)]
    refine Ev.succ hc ?_
    cases acc with
    | true =>
      rw [meetFrom] at ht hf
      by_cases h : mn (at_ (bx l i).f1 d) (at_ (bx l kk).f1 d) < mx (at_ (bx l i).f0 d) (at_ (bx l kk).f0 d)
      · rw [if_pos h] at ht hf
        refine Ev.same (fun k => by rw [if_pos rfl, decide_eq_false (by omega)]) (ih (d + 1) false (by omega) (fun h => by cases h) (fun _ => hf rfl))
      · rw [if_neg h] at ht hf
        refine Ev.same (fun k => by rw [if_pos rfl, decide_eq_true (by omega)]) (ih (d + 1) true (by omega) ht hf)
    | false => exact ih (d + 1) false (by omega) (fun h => by cases h) (fun _ => hf rfl)
theorem gm_l1 {l : List S25} {lo hi : List Int} (hG : Good l lo hi) (x5 x6 : Int) (x7 : Bool) (i : Nat) (hi' : i < l.length) :
    ∀ (n kk : Nat), kk + n = l.length → (∀ k', ovIn l i kk n = some k' → x7 = true ∧ x5 = i ∧ x6 = k') → (ovIn l i kk n = none → Ev (fun k => dossierlaw9_GapsMeets.l0 k l x5 x6 x7 ((i + 1 : Nat) : Int)) true) →
    Ev (fun k => dossierlaw9_GapsMeets.l1 k l x5 x6 x7 (i : Int) (kk : Int)) true := by
  have h8 := hG.n
  intro n
  induction n with
  | zero =>
    intro kk e hs hn
    exact Ev.succ (fun k => by rw [dossierlaw9_GapsMeets.l1, if_neg (by omega), up (by omega)]) (hn rfl)
  | succ n ih =>
    intro kk e hs hn
    refine Ev.succ (fun k => by rw [dossierlaw9_GapsMeets.l1, if_pos (by omega)]; rfl) (gm_l2 hG x5 x6 x7 i kk hi' (by omega) (bx l i).f0.length 0 true (by omega) (fun h => ?_) (fun h => ?_))
    · exact hs kk (by rw [ovIn, if_pos (by simpa [meetB] using h)])
    · have hm : ¬ meetB (bx l i) (bx l kk) = true := by
        rw [Bool.true_and] at h
        rw [meetB, h]
        decide
      rw [ovIn, if_neg hm] at hs hn
      exact ih (kk + 1) (by omega) hs hn
theorem gm_l0 {l : List S25} {lo hi : List Int} (hG : Good l lo hi) (x5 x6 : Int) (x7 : Bool) :
    ∀ (n i : Nat), i + n = l.length → ovAns (ovOut l i n) = (x5, x6, x7) → Ev (fun k => dossierlaw9_GapsMeets.l0 k l x5 x6 x7 (i : Int)) true := by
  have h8 := hG.n
  intro n
  induction n with
  | zero =>
    intro i e h
    simp only [ovOut, ovAns, Prod.mk.injEq] at h
    obtain ⟨rfl, rfl, rfl⟩ := h
    exact Ev.succ (fun k => by rw [dossierlaw9_GapsMeets.l0, if_neg (by omega), if_neg (by decide), if_pos rfl, if_pos rfl]) known_ev
  | succ n ih =>
    intro i e h
    rw [ovOut] at h
    refine Ev.succ (fun k => by rw [dossierlaw9_GapsMeets.l0, if_pos (by omega), up (by omega)]) (gm_l1 hG x5 x6 x7 i (by omega) n (i + 1) (by omega) (fun k' hk => ?_) (fun hk => ?_))
    · rw [hk] at h
      simp only [ovAns, Prod.mk.injEq] at h
      exact ⟨h.2.2.symm, h.1.symm, h.2.1.symm⟩
    · rw [hk] at h
      exact ih (i + 1) (by omega) h
theorem meets_true (l : List S25) (lo hi : List Int) : ∃ k, dossierlaw9_GapsMeets.f k l lo hi = some true := by
  apply Ev.get
  rcases may l lo hi with ⟨h, hG⟩ | h
  · exact Ev.bind h (Ev.same (fun k => by rw [if_pos rfl]) (Ev.bind (gov hG) (gm_l0 hG _ _ _ l.length 0 (by omega) rfl)))
  · exact Ev.bind h (Ev.same (G := fun _ => some true) (fun k => by rw [if_neg (by decide)]) (Ev.now _))
end Go.Proofs.Ytjikkeajhogcdaa
