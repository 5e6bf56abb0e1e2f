/- dossierref9.least answers gaps.hole's point: plain Lean over the printed model, no machine. -/
import Derived.Test.YtjikkeajhogcdaaEv
namespace Go.Proofs.Ytjikkeajhogcdaa
open Go.RowKit Go.Proofs.YtjikkeajhogcdaaW.PrintWords Go.Proofs.YtjikkeajhogcdaaW.PrintLast Go.Proofs.YtjikkeajhogcdaaW.PrintMore PGapsTells
theorem drop_bx {l : List S25} {i : Nat} (h : i < l.length) : l.drop i = bx l i :: l.drop (i + 1) := by
  rw [List.drop_eq_getElem_cons h]
  simp [bx, List.getD, h]
theorem least_l0 {l : List S25} {lo hi : List Int} (hG : Good l lo hi) (p : List Int) : ∀ (n i : Nat), i + n = l.length → Ev (fun k => dossierref9_least.l0 k l p (i : Int)) (if (l.drop i).any (fun b => inB b.f0 b.f1 p) = true then ([], false) else (p, true)) := by
  intro n
  induction n with
  | zero =>
    intro i e
    rw [List.drop_of_length_le (by omega)]
    exact Ev.succ (G := fun _ => some (p, true)) (fun k => by rw [dossierref9_least.l0, if_neg (by omega)]) (Ev.now _)
  | succ n ih =>
    intro i e
    have hn := hG.n
    have hb := (hG.bx (show i < l.length by omega)).1
    have hc : ∀ k, dossierref9_least.l0 (k + 1) l p (i : Int) = (dossierref9_In.f k (bx l i).f0 (bx l i).f1 p).bind fun t => if t = true then some ([], false) else dossierref9_least.l0 k l p ((i + 1 : Nat) : Int) := fun k => by
      rw [dossierref9_least.l0, if_pos (by omega), if_pos (by omega)]
      simp only [rd_bx, up (show i ≤ 1000000 by omega)]
    rw [drop_bx (by omega), List.any_cons]
    have hI := rin (bx l i).f0 (bx l i).f1 p hb.same (by have := hb.n3; omega)
    cases h : inB (bx l i).f0 (bx l i).f1 p with
    | true =>
      rw [h] at hI
      exact Ev.succ hc (Ev.bind hI (Ev.now _))
    | false =>
      rw [h] at hI
      exact Ev.succ hc (Ev.bind hI (ih (i + 1) (by omega)))
/-- How far the answer may go on from x. -/
def Next (l : List S25) (hi : List Int) (d : Nat) (x nx : Int) (m : Nat) : Prop := x < nx ∧ nx ≤ at_ hi d + 1 ∧ ∀ j, j < m → at_ (bx l j).f0 d ≤ x → x ≤ at_ (bx l j).f1 d → nx ≤ at_ (bx l j).f1 d + 1
theorem Next.less {l : List S25} {hi : List Int} {d : Nat} {x nx : Int} {m : Nat} (h : Next l hi d x nx m) (ny : Int) (h1 : x < ny) (h2 : ny ≤ nx) (h3 : at_ (bx l m).f0 d ≤ x → x ≤ at_ (bx l m).f1 d → ny ≤ at_ (bx l m).f1 d + 1) : Next l hi d x ny (m + 1) := by
  refine ⟨h1, Int.le_trans h2 h.2.1, fun j hj a b => ?_⟩
  rcases Nat.eq_or_lt_of_le (Nat.le_of_lt_succ hj) with e | e
  · subst e
    exact h3 a b
  · exact Int.le_trans h2 (h.2.2 j e a b)
theorem least_l2 {l : List S25} {lo hi : List Int} (hG : Good l lo hi) (p : List Int) (hp : p.length < lo.length) (x : Int) (R : List Int × Bool)
    (h1 : ∀ nx, Next l hi p.length x nx l.length → Ev (fun k => dossierref9_least.l1 k l p (p.length : Int) nx lo hi) R) :
    ∀ (n i : Nat) (nx : Int), i + n = l.length → Next l hi p.length x nx i → Ev (fun k => dossierref9_least.l2 k l p (p.length : Int) x nx (i : Int) lo hi) R := by
  intro n
  induction n with
  | zero =>
    intro i nx e hn
    have : i = l.length := by omega
    subst this
    exact Ev.succ (fun k => by rw [dossierref9_least.l2, if_neg (by omega)]) (h1 nx hn)
  | succ n ih =>
    intro i nx e hn
    have h8 := hG.n
    obtain ⟨hb, hbn⟩ := hG.bx (show i < l.length by omega)
    have hnum := hb.num p.length (by omega)
    have hs := hb.same
    have hw : wrap64 (at_ (bx l i).f1 p.length + 1) = at_ (bx l i).f1 p.length + 1 := by
      unfold wrap64
      omega
    have hc : ∀ k, dossierref9_least.l2 (k + 1) l p (p.length : Int) x nx (i : Int) lo hi = if at_ (bx l i).f0 p.length ≤ x then (if x ≤ at_ (bx l i).f1 p.length then dossierref9_least.j3 k l p (p.length : Int) x nx (i : Int) (decide (at_ (bx l i).f1 p.length + 1 < nx)) lo hi else dossierref9_least.j3 k l p (p.length : Int) x nx (i : Int) false lo hi) else dossierref9_least.j3 k l p (p.length : Int) x nx (i : Int) false lo hi := fun k => by
      rw [dossierref9_least.l2, if_pos (by omega), if_pos (by omega), if_pos (by omega)]
      simp only [rd_bx, rd_at, hw, if_pos (show (p.length : Int) < ((bx l i).f0.length : Int) by omega), if_pos (show (p.length : Int) < ((bx l i).f1.length : Int) by omega), ge_iff_le]
    have hf : ∀ k, dossierref9_least.j3 (k + 1) l p (p.length : Int) x nx (i : Int) false lo hi = if x < at_ (bx l i).f0 p.length then (if at_ (bx l i).f0 p.length < nx then dossierref9_least.l2 k l p (p.length : Int) x (at_ (bx l i).f0 p.length) ((i + 1 : Nat) : Int) lo hi else dossierref9_least.l2 k l p (p.length : Int) x nx ((i + 1 : Nat) : Int) lo hi) else dossierref9_least.l2 k l p (p.length : Int) x nx ((i + 1 : Nat) : Int) lo hi := fun k => by
      rw [dossierref9_least.j3, if_neg (by decide), if_pos (by omega), if_pos (by omega), if_pos (by omega)]
      simp only [rd_bx, rd_at, up (show i ≤ 1000000 by omega), if_pos (show (p.length : Int) < ((bx l i).f0.length : Int) by omega), gt_iff_lt]
    have ht : at_ (bx l i).f0 p.length ≤ x → ∀ k, dossierref9_least.j3 (k + 1) l p (p.length : Int) x nx (i : Int) true lo hi = dossierref9_least.l2 k l p (p.length : Int) x (at_ (bx l i).f1 p.length + 1) ((i + 1 : Nat) : Int) lo hi := fun hx k => by
      rw [dossierref9_least.j3, if_pos rfl, if_pos (by omega), if_pos (by omega), if_pos (by omega)]
      simp only [rd_bx, rd_at, up (show i ≤ 1000000 by omega), hw, if_pos (show (p.length : Int) < ((bx l i).f0.length : Int) by omega), if_pos (show (p.length : Int) < ((bx l i).f1.length : Int) by omega), gt_iff_lt, if_neg (show ¬ x < at_ (bx l i).f0 p.length by omega)]
    by_cases c1 : at_ (bx l i).f0 p.length ≤ x
    · by_cases c2 : x ≤ at_ (bx l i).f1 p.length
      · by_cases c3 : at_ (bx l i).f1 p.length + 1 < nx
        · exact Ev.succ (fun k => by rw [hc, if_pos c1, if_pos c2, decide_eq_true c3]) (Ev.succ (ht c1) (ih (i + 1) _ (by omega) (hn.less _ (by omega) (by omega) (fun _ _ => by omega))))
        · exact Ev.succ (fun k => by rw [hc, if_pos c1, if_pos c2, decide_eq_false c3]) (Ev.succ (fun k => by rw [hf, if_neg (by omega)]) (ih (i + 1) _ (by omega) (hn.less _ hn.1 (by omega) (fun _ _ => by omega))))
      · exact Ev.succ (fun k => by rw [hc, if_pos c1, if_neg c2]) (Ev.succ (fun k => by rw [hf, if_neg (by omega)]) (ih (i + 1) _ (by omega) (hn.less _ hn.1 (by omega) (fun _ _ => by omega))))
    · by_cases c2 : at_ (bx l i).f0 p.length < nx
      · exact Ev.succ (fun k => by rw [hc, if_neg c1]) (Ev.succ (fun k => by rw [hf, if_pos (by omega), if_pos c2]) (ih (i + 1) _ (by omega) (hn.less _ (by omega) (by omega) (fun _ _ => by omega))))
      · exact Ev.succ (fun k => by rw [hc, if_neg c1]) (Ev.succ (fun k => by rw [hf, if_pos (by omega), if_neg c2]) (ih (i + 1) _ (by omega) (hn.less _ hn.1 (by omega) (fun _ _ => by omega))))
theorem wholeLe {l : List S25} {lo hi : List Int} (hG : Good l lo hi) : ∀ d, d < lo.length → at_ lo d ≤ at_ hi d := fun d hd => (hG.whole.num d hd).2.1
theorem least_l1 {l : List S25} {lo hi : List Int} (hG : Good l lo hi) (r : Nat) (p : List Int) (hp : p.length + (r + 1) = lo.length)
    (ihf : ∀ p' : List Int, p'.length + r = lo.length → Ev (fun k => dossierref9_least.f k l lo hi p') (ansOf (holeF l lo hi r p'))) :
    ∀ (m : Nat) (x : Int), (at_ hi p.length + 1 - x).toNat ≤ m → at_ lo p.length ≤ x → (∀ y, at_ lo p.length ≤ y → y < x → ¬ Free l lo hi r (p ++ [y])) →
    Ev (fun k => dossierref9_least.l1 k l p (p.length : Int) x lo hi) (ansOf (holeF l lo hi (r + 1) p)) := by
  intro m
  induction m with
  | zero =>
    intro x hm hx hno
    have hs := hG.whole.same
    have hR : holeF l lo hi (r + 1) p = none := by
      rcases holeF_best (wholeLe hG) (r + 1) p hp with ⟨h, _⟩ | ⟨q, _, hb⟩
      · exact h
      · obtain ⟨y, hy1, hy2, hf⟩ := hb.free
        exact absurd hf (hno y hy1 (by omega))
    rw [hR]
    exact Ev.succ (G := fun _ => some ([], false)) (fun k => by rw [dossierref9_least.l1, if_pos (by omega), if_pos (by omega), rd_at, if_neg (by omega)]) (Ev.now _)
  | succ m ih =>
    intro x hm hx hno
    have hs := hG.whole.same
    have h3 := hG.whole.n3
    by_cases hxh : x ≤ at_ hi p.length
    · have hw : wrap64 (at_ hi p.length + 1) = at_ hi p.length + 1 := by
        have := hG.whole.num p.length (by omega)
        unfold wrap64
        omega
      have hc : ∀ k, dossierref9_least.l1 (k + 1) l p (p.length : Int) x lo hi = (dossierref9_least.f k l lo hi (p ++ [x])).bind fun bt => if bt.2 = true then some (bt.1, true) else dossierref9_least.l2 k l p (p.length : Int) x (at_ hi p.length + 1) ((0 : Nat) : Int) lo hi := fun k => by
        rw [dossierref9_least.l1, if_pos (by omega), if_pos (by omega), rd_at, if_pos (by omega)]
        simp only [Option.bind_some, List.nil_append, List.length_nil, List.length_cons, hw]
        rw [if_pos (by omega), if_pos (by omega)]
        rfl
      refine Ev.succ hc (Ev.bind (ihf (p ++ [x]) (by simp; omega)) ?_)
      rcases holeF_best (wholeLe hG) r (p ++ [x]) (by simp; omega) with ⟨hn, hnf⟩ | ⟨q, hq, hb⟩
      · rw [hn]
        refine least_l2 hG p (by omega) x _ (fun nx hnx => ?_) l.length 0 _ (by omega) ⟨by omega, Int.le_refl _, fun j hj => by omega⟩
        obtain ⟨hx1, hx2, hx3⟩ := hnx
        refine ih nx (by omega) (by omega) (fun y hy1 hy2 hf => ?_)
        rcases Int.lt_or_le y x with hlt | hge
        · exact hno y hy1 hlt hf
        · refine hnf (Free.of r (p ++ [y]) (p ++ [x]) (by simp) (fun b hb hpre => ?_) hf)
          rw [pre_snoc] at hpre ⊢
          obtain ⟨j, hj, e⟩ := List.getElem_of_mem hb
          have hbx : bx l j = b := by simp [bx, List.getD, hj, e]
          have := hx3 j hj
          rw [hbx] at this
          exact ⟨hpre.1, by omega, by have := this (by omega) (by omega); omega⟩
      · rw [hq]
        have hB : Best l lo hi (r + 1) p q := ⟨x, hx, hxh, hb, hno⟩
        have hR : holeF l lo hi (r + 1) p = some q := by
          rcases holeF_best (wholeLe hG) (r + 1) p hp with ⟨_, hnf⟩ | ⟨q', hq', hb'⟩
          · exact absurd hB.free hnf
          · rw [hq', hB.one hb']
        rw [hR]
        exact Ev.now _
    · refine ih x (by omega) hx hno
theorem least_f {l : List S25} {lo hi : List Int} (hG : Good l lo hi) : ∀ (r : Nat) (p : List Int), p.length + r = lo.length → Ev (fun k => dossierref9_least.f k l lo hi p) (ansOf (holeF l lo hi r p)) := by
  intro r
  induction r with
  | zero =>
    intro p hp
    have h0 := least_l0 hG p l.length 0 (by omega)
    rw [List.drop_zero] at h0
    have hR : ansOf (holeF l lo hi 0 p) = if (l.any fun b => inB b.f0 b.f1 p) = true then ([], false) else (p, true) := by
      unfold holeF covB
      cases (l.any fun b => inB b.f0 b.f1 p) <;> simp [ansOf]
    rw [hR]
    exact Ev.succ (fun k => by rw [dossierref9_least.f, if_pos (by omega)]; rfl) h0
  | succ r ih =>
    intro p hp
    refine Ev.succ (fun k => by rw [dossierref9_least.f, if_neg (by omega), if_pos (by omega), if_pos (by omega), rd_at]) (least_l1 hG r p hp (fun p' hp' => ih p' hp') _ _ (Nat.le_refl _) (Int.le_refl _) (fun y h1 h2 => by omega))
theorem rhole {l : List S25} {lo hi : List Int} (hG : Good l lo hi) : Ev (fun k => dossierref9_Hole.f k l lo hi) (ansOf (holeF l lo hi lo.length [])) :=
  Ev.same (fun _ => rfl) (Ev.bind (least_f hG lo.length [] (by simp)) (Ev.now _))
theorem good_boxes {l : List S25} {lo hi : List Int} (hG : Good l lo hi) : boxesB l lo hi = true := by
  have h3 := hG.whole.n3
  have hn := hG.n
  simp only [boxesB, Bool.and_eq_true, decide_eq_true_eq, List.all_eq_true]
  refine ⟨⟨⟨hn, by omega⟩, hG.whole.same⟩, fun b hb => ?_⟩
  obtain ⟨h1, h2⟩ := hG.all b hb
  have hs := h1.same
  refine ⟨⟨h2, by omega⟩, fun x hx => ?_⟩
  obtain ⟨j, hj, rfl⟩ := List.getElem_of_mem hx
  have := h1.num j (by omega)
  have he : at_ b.f1 j = b.f1[j] := by simp [at_, List.getD, hj]
  rw [he] at this
  omega
theorem ghole {l : List S25} {lo hi : List Int} (hG : Good l lo hi) : Ev (fun k => gaps_Hole.f k l lo hi) (ansOf (holeF l lo hi lo.length [])) :=
  Ev.same (fun k => by rw [gaps_Hole.f, if_pos (good_boxes hG)]) (Ev.now _)
end Go.Proofs.Ytjikkeajhogcdaa
