/- Where events lead to, the document's way, walked; the two laws, walked. Conditions stand in each part's own head. -/
import Derived.Test.YtaddhackggbdkaaHsK
import Derived.Test.YtaddhackggbdkaaHsJ
import Derived.Test.YtaddhackggbdkaaKnown
import Derived.Test.YtaddhackggbdkaaEvents
import Derived.Test.YtaddhackggbdkaaHsA
/-! Where events lead to, the document's way, walked; conditions: the model and the events lie in the world, of events there are at most 200. -/
namespace Go.Proofs.Ytaddhackggbdkaa
open Go.RowKit Go.Proofs.YtaddhackggbdkaaW.PrintWords Go.Proofs.YtaddhackggbdkaaW.PrintLast Go.Proofs.YtaddhackggbdkaaW.PrintMore PHistTells
set_option maxRecDepth 100000
set_option linter.unusedSimpArgs false
theorem below_on9 {B : Nat} {W w w' : World} (h : Below B W w) (hb : Below w.heap.size w w') (hB : B ≤ w.heap.size) : Below B W w' := h.trans (hb.mono hB)
/-- Behind an append to the first row. -/
theorem keepA {B b9 : Nat} {W1 w w2 : World} {vs vd v' : Value} {s d s' : List Int} {o : Obj} {X : World → Prop} (ht : Two w B vs vd s d) (hk : Below B W1 w ∧ w.heap[b9]? = some o ∧ B ≤ w.heap.size) (ho : OwnI w2 B v' s') (hg : w.grownBy w2 vs.ownBlock) (hv : v'.ownBlock = vs.ownBlock ∨ v'.ownBlock = some w.heap.size)
    (hn : ∀ g, vs.ownBlock = some g ∨ vd.ownBlock = some g → g ≠ b9) (_ : ∀ w', Below B W1 w' → X w') : ∀ w', Below w2.heap.size w2 w' → Two w' B v' vd s' d ∧ Below B W1 w' ∧ w'.heap[b9]? = some o ∧ B ≤ w'.heap.size := by
  intro w' hb
  have h2 := ht.grown ho hg hv
  have hB2 : B ≤ w2.heap.size := Nat.le_trans hk.2.2 hg.size
  have hbb : Below B W1 w2 := below_grown_by hk.1 hg (fun _ e => (ht.s.lt e).1) hk.2.2
  have h9 : w2.heap[b9]? = some o := (hg.block b9 (Array.getElem?_eq_some_iff.1 hk.2.1).1 (fun e => hn b9 (.inl e.symm) rfl)).trans hk.2.1
  exact ⟨h2.below hb, below_on9 hbb hb hB2, (hb.block _ (Array.getElem?_eq_some_iff.1 h9).1).trans h9, Nat.le_trans hB2 hb.size⟩
/-- Behind an append to the second row. -/
theorem keepB {B b9 : Nat} {W1 w w2 : World} {vs vd v' : Value} {s d d' : List Int} {o : Obj} (ht : Two w B vs vd s d) (hk : Below B W1 w ∧ w.heap[b9]? = some o ∧ B ≤ w.heap.size) (ho : OwnI w2 B v' d') (hg : w.grownBy w2 vd.ownBlock) (hv : v'.ownBlock = vd.ownBlock ∨ v'.ownBlock = some w.heap.size)
    (hn : ∀ g, vd.ownBlock = some g → g ≠ b9) : Two w2 B vs v' s d' ∧ Below B W1 w2 ∧ w2.heap[b9]? = some o :=
  ⟨(ht.swap.grown ho hg hv).swap, below_grown_by hk.1 hg (fun _ e => (ht.d.lt e).1) hk.2.2, (hg.block b9 (Array.getElem?_eq_some_iff.1 hk.2.1).1 (fun e => hn b9 e.symm rfl)).trans hk.2.1⟩
set_option maxHeartbeats 4000000 in
theorem states32 (W : World) (M : Mod) (hM : ModOk W M) (A : Option Addr) (l : List S39) (c : Nat) (hR : Rd W A l) (hl : l.length ≤ 200) (w : World) (hw : Below W.heap.size W w) :
    Calls Try.prog 32 #[M.v, .slice A l.length c] w fun e w' => ResS (stF (kindOf W M.A2) M.l2 l [] []) (w.heap.size + 1) e w' ∧ Below w.heap.size w w' := by
  obtain ⟨A0, l0, c0, A1, l1, c1, A2, l2, c2⟩ := M
  have hle2 : l2 ≤ 9223372036854775807 := hM.plan.le
  have HKD : Hid (∀ i, i < l2 → ∃ ad, A2 = some ad ∧ ∀ w, Below W.heap.size W w → w.cell? ⟨(ad.add (i * 8)).block, (ad.add (i * 8)).off + 1, none⟩ = some (.int .i64 (kindOf W A2 i))) := Lib.hid (fun i hi => kind_is hM.plan hi)
  show Calls Try.prog 32 #[Mod.v ⟨A0, l0, c0, A1, l1, c1, A2, l2, c2⟩, .slice A l.length c] w fun e w' => ResS (stF (kindOf W A2) l2 l [] []) (w.heap.size + 1) e w' ∧ Below w.heap.size w w'
  unfold Mod.v
  generalize kindOf W A2 = K at HKD ⊢
  obtain ⟨o, ho⟩ : ∃ o, stF K l2 l [] [] = o := ⟨_, rfl⟩
  rw [ho]
  have HO := Lib.hid ho
  have HR := Lib.hid hR
  have HW := Lib.hid hw.size
  have H1 : Hid (Below w.heap.size w (w.alloc (.cells #[.slice A0 l0 c0, .slice A1 l1 c1, .slice A2 l2 c2] 53)) ∧ (w.alloc (.cells #[.slice A0 l0 c0, .slice A1 l1 c1, .slice A2 l2 c2] 53)).heap[w.heap.size]? = some (.cells #[.slice A0 l0 c0, .slice A1 l1 c1, .slice A2 l2 c2] 53 (0, 0)) ∧ Below W.heap.size W (w.alloc (.cells #[.slice A0 l0 c0, .slice A1 l1 c1, .slice A2 l2 c2] 53)) ∧ w.heap.size + 1 ≤ (w.alloc (.cells #[.slice A0 l0 c0, .slice A1 l1 c1, .slice A2 l2 c2] 53)).heap.size) :=
    Lib.hid ⟨(Below.refl _ _).alloc (Nat.le_refl _) _, heap_alloc_new w _, hw.alloc hw.size _, by simp⟩
  clear hM hw hR ho
  go_enter Try.func32, Try.ntmps32
  go_upto_block 0 with fail
  generalize w.alloc (.cells #[.slice A0 l0 c0, .slice A1 l1 c1, .slice A2 l2 c2] 53) = W1 at H1 ⊢
  have HLW : Hid (∀ w', Below (w.heap.size + 1) W1 w' → Below W.heap.size W w' ∧ Below w.heap.size w w' ∧ w'.cell? ⟨w.heap.size, 2, none⟩ = some (.slice A2 l2 c2) ∧ w.heap.size + 1 ≤ w'.heap.size) := Lib.hid (fun w' hb => by
    have h1 := HW.out
    exact ⟨H1.out.2.2.1.trans (hb.mono (by omega)), H1.out.1.trans (hb.mono (by omega)), cell_of ((hb.block w.heap.size (by omega)).trans H1.out.2.1) 2, Nat.le_trans H1.out.2.2.2 hb.size⟩)
  go_wp2_with fail
  go_loopg [6, 7, 8] l.length (fun g vs vd i wr => ∃ k : Nat, k ≤ l.length ∧ g + k = l.length ∧ i = .int .i64 k ∧ ∃ s d, Hid (Two wr (w.heap.size + 1) vs vd s d ∧ s.length = d.length ∧ s.length ≤ k ∧ stF K l2 (l.drop k) s d = o ∧ Below (w.heap.size + 1) W1 wr))
  case atStart => exact ⟨0, Nat.zero_le _, by omega, rfl, [], [], Lib.hid ⟨Two.nil _ _, rfl, Nat.zero_le _, HO.out, Below.refl _ _⟩⟩
  case round =>
    obtain ⟨k, hk, hg, rfl, s, d, HI⟩ := hrel
    have HG := Lib.hid hg
    clear hg
    obtain ⟨As, cs, es, hs1, hs2⟩ := HI.out.1.s.shape
    obtain ⟨Ad, cd, ed, hd1, hd2⟩ := HI.out.1.d.shape
    subst es ed
    by_cases hlt : k < l.length
    rotate_left
    · go_wp2_with fail
      go_ret2
      refine ⟨?_, (HLW.out _ HI.out.2.2.2.2).2.1⟩
      have h0 := HI.out.2.2.2.1
      rw [List.drop_eq_nil_of_le (by omega)] at h0
      rw [← h0]
      exact ⟨_, rfl, HI.out.1.s⟩
    obtain ⟨x, hx⟩ : ∃ x, l[k]? = some x := ⟨l[k], List.getElem?_eq_getElem hlt⟩
    have hdr : l.drop k = x :: l.drop (k + 1) := by
      rw [List.drop_eq_getElem_cons hlt]
      congr 1
      rw [List.getElem?_eq_getElem hlt] at hx
      exact Option.some.inj hx
    have HDR := Lib.hid hdr
    obtain ⟨ad, rfl, hc⟩ := ev_cells HR.out hx
    clear hx hdr
    obtain ⟨d0, d1, d2, d3, d4⟩ := hc wr (HLW.out _ HI.out.2.2.2.2).1
    clear hc
    obtain ⟨tm, fl, rf, ins, mv⟩ := x
    simp only at d0 d1 d2 d3 d4
    go_upto_region 6 with fail
    have H6 : Hid (Two (wr.alloc (.cells #[.int .i64 tm, .bool fl, .int .i64 rf, .int .i64 ins, .int .i64 mv] 39)) (w.heap.size + 1) (.slice As s.length cs) (.slice Ad d.length cd) s d ∧ Below (w.heap.size + 1) W1 (wr.alloc (.cells #[.int .i64 tm, .bool fl, .int .i64 rf, .int .i64 ins, .int .i64 mv] 39)) ∧ (wr.alloc (.cells #[.int .i64 tm, .bool fl, .int .i64 rf, .int .i64 ins, .int .i64 mv] 39)).heap[wr.heap.size]? = some (.cells #[.int .i64 tm, .bool fl, .int .i64 rf, .int .i64 ins, .int .i64 mv] 39 (0, 0)) ∧
        (∀ g, (Value.slice As s.length cs).ownBlock = some g → g < wr.heap.size) ∧ (∀ g, (Value.slice Ad d.length cd).ownBlock = some g → g < wr.heap.size) ∧ w.heap.size + 1 ≤ wr.heap.size) :=
      Lib.hid ⟨HI.out.1.below ((Below.refl _ _).alloc (Nat.le_refl _) _), HI.out.2.2.2.2.alloc (HLW.out _ HI.out.2.2.2.2).2.2.2 _, heap_alloc_new wr _, fun g e => (HI.out.1.s.lt e).2, fun g e => (HI.out.1.d.lt e).2, (HLW.out _ HI.out.2.2.2.2).2.2.2⟩
    have HJ : Hid (s.length = d.length ∧ s.length ≤ k ∧ stF K l2 (l.drop k) s d = o) := Lib.hid ⟨HI.out.2.1, HI.out.2.2.1, HI.out.2.2.2.1⟩
    clear d0 d1 d2 d3 d4 HI
    generalize hb9 : wr.heap.size = b9 at H6 ⊢
    generalize wr.alloc (.cells #[.int .i64 tm, .bool fl, .int .i64 rf, .int .i64 ins, .int .i64 mv] 39) = W6 at H6 ⊢
    clear hb9
    have hsk := HJ.out.2.1
    have e1 := cell_of H6.out.2.2.1 1
    cases fl
    rotate_left
    · go_wp2_with fail
      go_roundg (l.length - (k + 1))
      case rel => exact ⟨k + 1, by omega, by omega, by first | rfl | rw [w64 (by omega) (by omega)], s, d, Lib.hid ⟨H6.out.1, HJ.out.1, by omega, by rw [← HJ.out.2.2, HDR.out]; exact (stF_file rfl).symm, H6.out.2.1⟩⟩
      case measure => have := HG.out; omega
    have e2 := cell_of H6.out.2.2.1 2
    have e3 := cell_of H6.out.2.2.1 3
    have m2 := (HLW.out _ H6.out.2.1).2.2.1
    by_cases hbad : ins < 0 ∨ (s.length : Int) < ins ∨ rf < 0 ∨ (l2 : Int) ≤ rf
    · have HN : Hid (o = none) := Lib.hid (by rw [← HJ.out.2.2, HDR.out]; exact stF_bad rfl hbad)
      rcases (by omega : rf < 0 ∨ (0 ≤ rf ∧ (l2 : Int) ≤ rf) ∨ (0 ≤ rf ∧ rf < (l2 : Int) ∧ ins < 0) ∨ (0 ≤ rf ∧ rf < (l2 : Int) ∧ 0 ≤ ins ∧ (s.length : Int) < ins)) with h | ⟨h1, h2⟩ | ⟨h1, h2, h3⟩ | ⟨h1, h2, h3, h4⟩
      all_goals
        clear hbad
        go_wp2_with fail
        go_ret2
        refine ⟨?_, (HLW.out _ H6.out.2.1).2.1⟩
        rw [HN.out]
        rfl
    obtain ⟨j, hj⟩ := Int.eq_ofNat_of_zero_le (by omega : 0 ≤ ins)
    obtain ⟨r, hr⟩ := Int.eq_ofNat_of_zero_le (by omega : 0 ≤ rf)
    subst hj hr
    have hj1 : j ≤ s.length := by omega
    have hr1 : r < l2 := by omega
    have hj2 : (j : Int) ≤ (s.length : Int) := by omega
    have hr2 : (r : Int) < (l2 : Int) := by omega
    clear hbad
    obtain ⟨s1, es1⟩ : ∃ s1, moreS j s = s1 := ⟨_, rfl⟩
    obtain ⟨d1, ed1⟩ : ∃ d1, moreD j s.length r d = d1 := ⟨_, rfl⟩
    have hjs : j < s1.length := by rw [← es1]; exact moreS_length hj1
    have hls : s1.length = d1.length := by rw [← es1, ← ed1]; exact (moreD_length HJ.out.1 rfl).symm
    have hlk : s1.length ≤ k + 1 := by have := (moreS_le (j := j) (s := s)).2; rw [← es1]; omega
    have ES := Lib.hid es1
    have HLS := Lib.hid hls
    have ED := Lib.hid ed1
    clear es1 ed1 hls
    go_upto_if 51 with fail
    clear e1 e2 e3 m2
    go_cut [6, 7] from 12 to 94 (fun vs vd wx => Hid (Two wx (w.heap.size + 1) vs vd s1 d1 ∧ Below (w.heap.size + 1) W1 wx ∧ wx.heap[b9]? = some (.cells #[.int .i64 tm, .bool false, .int .i64 r, .int .i64 j, .int .i64 mv] 39 (0, 0))))
    case first =>
      by_cases hjn : j = s.length
      · have hjd : (j : Int) = (s.length : Int) := by omega
        have hs1e : s1 = s ++ [0] := by rw [← ES.out]; unfold moreS; rw [if_pos hjn]
        have hd1e : d1 = d ++ [(r : Int)] := by rw [← ED.out]; unfold moreD; rw [if_pos hjn]
        have HB0 : Hid (∀ w', Below W6.heap.size W6 w' → Two w' (w.heap.size + 1) (.slice As s.length cs) (.slice Ad d.length cd) s d ∧ Below (w.heap.size + 1) W1 w' ∧ w'.heap[b9]? = some (.cells #[.int .i64 tm, .bool false, .int .i64 r, .int .i64 j, .int .i64 mv] 39 (0, 0)) ∧ w.heap.size + 1 ≤ w'.heap.size) := Lib.hid (fun w' hb => ⟨H6.out.1.below hb, below_on9 H6.out.2.1 hb (HLW.out _ H6.out.2.1).2.2.2, stays H6.out.2.2.1 hb, Nat.le_trans (HLW.out _ H6.out.2.1).2.2.2 hb.size⟩)
        have HN9 : Hid (∀ g, (Value.slice As s.length cs).ownBlock = some g ∨ (Value.slice Ad d.length cd).ownBlock = some g → g ≠ b9) := Lib.hid (fun g e q => by
          rcases e with e | e
          · have := H6.out.2.2.2.1 g e
            omega
          · have := H6.out.2.2.2.2.1 g e
            omega)
        have HE := Lib.hid (And.intro hs1e hd1e)
        have e2 := cell_of H6.out.2.2.1 2
        clear hs1e hd1e hjn
        go_wp2_with fail
        go_region_held3 (fun w' => w'.cell? ⟨b9, 2, none⟩ = some (.int .i64 r))
          (first | exact cell_of H9.out.2.2 2 | exact cell_of (HA.out _ (by go_grown)).2.2.1 2 | exact cell_of (HB0.out _ (by go_grown)).2.2.1 2)
          (first
          | (refine step_append_i (w := w2.alloc (.cells #[.int .i64 r] 3)) rfl (.tmp 55) (.tmp 58) rfl (.slice Ad d.length cd) rfl (HA.out (w2.alloc (.cells #[.int .i64 r] 3)) ((Below.refl _ _).alloc (Nat.le_refl _) _)).1.d (b := w2.heap.size) rfl (y := (r : Int)) (cell_of (heap_alloc_new w2 (.cells #[.int .i64 r] 3)) 0) (by have := HJ.out.1; omega) (HA.out (w2.alloc (.cells #[.int .i64 r] 3)) ((Below.refl _ _).alloc (Nat.le_refl _) _)).2.2.2 ?_; intro v2 w3 ho hgr hv; have H9 : Hid (Two w3 (w.heap.size + 1) v' v2 s1 d1 ∧ Below (w.heap.size + 1) W1 w3 ∧ w3.heap[b9]? = some (.cells #[.int .i64 tm, .bool false, .int .i64 r, .int .i64 j, .int .i64 mv] 39 (0, 0))) := Lib.hid (by rw [HE.out.1, HE.out.2]; exact keepB (HA.out (w2.alloc (.cells #[.int .i64 r] 3)) ((Below.refl _ _).alloc (Nat.le_refl _) _)).1 (HA.out (w2.alloc (.cells #[.int .i64 r] 3)) ((Below.refl _ _).alloc (Nat.le_refl _) _)).2 ho hgr hv (fun g e => HN9.out g (.inr e))); clear ho hgr hv)
          | (refine step_append_i (w := w2) rfl (.tmp 55) (.tmp 58) rfl (.slice Ad d.length cd) rfl (HA.out (w2) (Below.refl _ _)).1.d (b := (W6.heap.size + 1)) rfl (y := (r : Int)) (cell_of HCR.out 0) (by have := HJ.out.1; omega) (HA.out (w2) (Below.refl _ _)).2.2.2 ?_; intro v2 w3 ho hgr hv; have H9 : Hid (Two w3 (w.heap.size + 1) v' v2 s1 d1 ∧ Below (w.heap.size + 1) W1 w3 ∧ w3.heap[b9]? = some (.cells #[.int .i64 tm, .bool false, .int .i64 r, .int .i64 j, .int .i64 mv] 39 (0, 0))) := Lib.hid (by rw [HE.out.1, HE.out.2]; exact keepB (HA.out (w2) (Below.refl _ _)).1 (HA.out (w2) (Below.refl _ _)).2 ho hgr hv (fun g e => HN9.out g (.inr e))); clear ho hgr hv)
          | (refine step_append_i (w := w2) rfl (.tmp 55) (.tmp 58) rfl (.slice Ad d.length cd) rfl (HA.out (w2) (Below.refl _ _)).1.d (b := W6.heap.size) rfl (y := (r : Int)) (cell_of HCR.out 0) (by have := HJ.out.1; omega) (HA.out (w2) (Below.refl _ _)).2.2.2 ?_; intro v2 w3 ho hgr hv; have H9 : Hid (Two w3 (w.heap.size + 1) v' v2 s1 d1 ∧ Below (w.heap.size + 1) W1 w3 ∧ w3.heap[b9]? = some (.cells #[.int .i64 tm, .bool false, .int .i64 r, .int .i64 j, .int .i64 mv] 39 (0, 0))) := Lib.hid (by rw [HE.out.1, HE.out.2]; exact keepB (HA.out (w2) (Below.refl _ _)).1 (HA.out (w2) (Below.refl _ _)).2 ho hgr hv (fun g e => HN9.out g (.inr e))); clear ho hgr hv)
          | (refine step_append_i (w := W6.drew.alloc (.cells #[.int .i64 0] 3)) rfl (.tmp 52) (.tmp 53) rfl (.slice As s.length cs) rfl (HB0.out (W6.drew.alloc (.cells #[.int .i64 0] 3)) (by go_grown)).1.s (b := W6.heap.size) rfl (y := 0) (cell_of (heap_alloc_new W6.drew (.cells #[.int .i64 0] 3)) 0) (by omega) (HB0.out (W6.drew.alloc (.cells #[.int .i64 0] 3)) (by go_grown)).2.2.2 ?_; intro v' w2 ho hgr hv; have HA : Hid (∀ w', Below w2.heap.size w2 w' → Two w' (w.heap.size + 1) v' (.slice Ad d.length cd) (s ++ [0]) d ∧ Below (w.heap.size + 1) W1 w' ∧ w'.heap[b9]? = some (.cells #[.int .i64 tm, .bool false, .int .i64 r, .int .i64 j, .int .i64 mv] 39 (0, 0)) ∧ w.heap.size + 1 ≤ w'.heap.size) := Lib.hid (keepA (HB0.out (W6.drew.alloc (.cells #[.int .i64 0] 3)) (by go_grown)).1 (HB0.out (W6.drew.alloc (.cells #[.int .i64 0] 3)) (by go_grown)).2 ho hgr hv HN9.out HLW.out); clear ho hgr hv)
          | (refine step_append_i (w := (W6.drew.alloc (.cells #[.int .i64 0] 3)).alloc (.cells #[.int .i64 r] 3)) rfl (.tmp 52) (.tmp 53) rfl (.slice As s.length cs) rfl (HB0.out ((W6.drew.alloc (.cells #[.int .i64 0] 3)).alloc (.cells #[.int .i64 r] 3)) (by go_grown)).1.s (b := W6.heap.size) rfl (y := 0) (cell_of (stays (heap_alloc_new W6.drew (.cells #[.int .i64 0] 3)) ((Below.refl _ _).alloc (Nat.le_refl _) (.cells #[.int .i64 r] 3))) 0) (by omega) (HB0.out ((W6.drew.alloc (.cells #[.int .i64 0] 3)).alloc (.cells #[.int .i64 r] 3)) (by go_grown)).2.2.2 ?_; intro v' w2 ho hgr hv; have HA : Hid (∀ w', Below w2.heap.size w2 w' → Two w' (w.heap.size + 1) v' (.slice Ad d.length cd) (s ++ [0]) d ∧ Below (w.heap.size + 1) W1 w' ∧ w'.heap[b9]? = some (.cells #[.int .i64 tm, .bool false, .int .i64 r, .int .i64 j, .int .i64 mv] 39 (0, 0)) ∧ w.heap.size + 1 ≤ w'.heap.size) := Lib.hid (keepA (HB0.out ((W6.drew.alloc (.cells #[.int .i64 0] 3)).alloc (.cells #[.int .i64 r] 3)) (by go_grown)).1 (HB0.out ((W6.drew.alloc (.cells #[.int .i64 0] 3)).alloc (.cells #[.int .i64 r] 3)) (by go_grown)).2 ho hgr hv HN9.out HLW.out); have HCR : Hid (w2.heap[W6.heap.size + 1]? = some (.cells #[.int .i64 r] 3 (0, 0))) := Lib.hid ((hgr.block _ (by first | (simp; done) | (simp; omega)) (fun e => by have := HB0.out W6 (Below.refl _ _); have := (this.1.s.lt e.symm).2; omega)).trans (by have := heap_alloc_new (W6.drew.alloc (.cells #[.int .i64 0] 3)) (.cells #[.int .i64 r] 3); simpa using this)); clear ho hgr hv)
          | (refine step_append_i (w := (W6.drew.alloc (.cells #[.int .i64 r] 3)).alloc (.cells #[.int .i64 0] 3)) rfl (.tmp 52) (.tmp 53) rfl (.slice As s.length cs) rfl (HB0.out ((W6.drew.alloc (.cells #[.int .i64 r] 3)).alloc (.cells #[.int .i64 0] 3)) (by go_grown)).1.s (b := (W6.heap.size + 1)) rfl (y := 0) ((by have := cell_of (heap_alloc_new (W6.drew.alloc (.cells #[.int .i64 r] 3)) (.cells #[.int .i64 0] 3)) 0; simpa using this)) (by omega) (HB0.out ((W6.drew.alloc (.cells #[.int .i64 r] 3)).alloc (.cells #[.int .i64 0] 3)) (by go_grown)).2.2.2 ?_; intro v' w2 ho hgr hv; have HA : Hid (∀ w', Below w2.heap.size w2 w' → Two w' (w.heap.size + 1) v' (.slice Ad d.length cd) (s ++ [0]) d ∧ Below (w.heap.size + 1) W1 w' ∧ w'.heap[b9]? = some (.cells #[.int .i64 tm, .bool false, .int .i64 r, .int .i64 j, .int .i64 mv] 39 (0, 0)) ∧ w.heap.size + 1 ≤ w'.heap.size) := Lib.hid (keepA (HB0.out ((W6.drew.alloc (.cells #[.int .i64 r] 3)).alloc (.cells #[.int .i64 0] 3)) (by go_grown)).1 (HB0.out ((W6.drew.alloc (.cells #[.int .i64 r] 3)).alloc (.cells #[.int .i64 0] 3)) (by go_grown)).2 ho hgr hv HN9.out HLW.out); have HCR : Hid (w2.heap[W6.heap.size]? = some (.cells #[.int .i64 r] 3 (0, 0))) := Lib.hid ((hgr.block _ (by first | (simp; done) | (simp; omega)) (fun e => by have := HB0.out W6 (Below.refl _ _); have := (this.1.s.lt e.symm).2; omega)).trans (stays (heap_alloc_new W6.drew (.cells #[.int .i64 r] 3)) ((Below.refl _ _).alloc (Nat.le_refl _) (.cells #[.int .i64 0] 3)))); clear ho hgr hv))
        all_goals
          go_wp2_with fail
          go_meet
          exact H9
      · have hjd : ¬ (j : Int) = (s.length : Int) := by omega
        have hs1e : s1 = s := by rw [← ES.out]; unfold moreS; rw [if_neg hjn]
        have hd1e : d1 = d := by rw [← ED.out]; unfold moreD; rw [if_neg hjn]
        have HE := Lib.hid (And.intro hs1e hd1e)
        clear hs1e hd1e hjn
        go_wp2_with fail
        go_meet
        exact Lib.hid ⟨by rw [HE.out.1, HE.out.2]; exact H6.out.1, H6.out.2.1, H6.out.2.2.1⟩
    case rest =>
      have HT := hcut
      clear hcut H6
      obtain ⟨g, cg, evs, -, -, hcs, -, -⟩ := HT.out.1.set hjs
      subst evs
      obtain ⟨sj, esj⟩ : ∃ x, s1.getD j 0 = x := ⟨_, rfl⟩
      rw [esj] at hcs
      have HSJ := Lib.hid esj
      clear esj
      obtain ⟨g', cg', evd, -, -, hcd, -, -⟩ := HT.out.1.swap.set (by rw [← HLS.out]; exact hjs)
      subst evd
      obtain ⟨dj, edj⟩ : ∃ x, d1.getD j 0 = x := ⟨_, rfl⟩
      rw [edj] at hcd
      have HDJ := Lib.hid edj
      clear edj
      obtain ⟨adp, eA2, hkc⟩ := HKD.out r hr1
      subst eA2
      have hjd : j < d1.length := by rw [← HLS.out]; exact hjs
      have hkm := hkc wc (HLW.out _ HT.out.2.1).1
      have m2 := (HLW.out _ HT.out.2.1).2.2.1
      have e2 := cell_of HT.out.2.2 2
      have e3 := cell_of HT.out.2.2 3
      have e4 := cell_of HT.out.2.2 4
      have HFS : Hid (∀ w', Below wc.heap.size wc w' → w'.cell? ⟨w.heap.size, 2, none⟩ = some (.slice (some adp) l2 c2) ∧ w'.cell? ⟨b9, 2, none⟩ = some (.int .i64 r) ∧ w'.cell? ⟨b9, 3, none⟩ = some (.int .i64 j) ∧ w'.cell? ⟨b9, 4, none⟩ = some (.int .i64 mv) ∧ w'.cell? ⟨(adp.add (r * 8)).block, (adp.add (r * 8)).off + 1, none⟩ = some (.int .i64 (K r)) ∧ w'.cell? ⟨g, j, none⟩ = some (.int .i64 sj)) := Lib.hid (fun w' hb => ⟨cell_below hb (lt_of_cell m2) m2, cell_below hb (lt_of_cell e2) e2, cell_below hb (lt_of_cell e3) e3, cell_below hb (lt_of_cell e4) e4, cell_below hb (lt_of_cell hkm) hkm, cell_below hb (lt_of_cell hcs) hcs⟩)
      obtain ⟨q, hq⟩ : ∃ q, nx (K r) sj mv = q := ⟨_, rfl⟩
      obtain ⟨bq, hbq⟩ : ∃ bq, decide (q ≠ 0) = bq := ⟨_, rfl⟩
      have HN48 : Hid (∀ w, Calls Try.prog 48 #[.int .i64 (K r), .int .i64 sj, .int .i64 mv] w fun e w' => e = .returned (.tuple #[.int .i64 q, .bool bq]) ∧ w' = w) := Lib.hid (fun w => by
        rw [← hbq, ← hq]
        exact next48 (K r) sj mv w)
      have HQ := Lib.hid (And.intro hq hbq)
      clear hq hbq
      have hji : (0 : Int) ≤ (j : Int) := by omega
      go_upto_region 11 with fail
      go_region_held3 (fun w' => w'.cell? ⟨w.heap.size, 2, none⟩ = some (.slice (some adp) l2 c2) ∧ w'.cell? ⟨b9, 2, none⟩ = some (.int .i64 r) ∧ w'.cell? ⟨b9, 3, none⟩ = some (.int .i64 j) ∧ w'.cell? ⟨b9, 4, none⟩ = some (.int .i64 mv) ∧ w'.cell? ⟨(adp.add (r * 8)).block, (adp.add (r * 8)).off + 1, none⟩ = some (.int .i64 (K r)) ∧ w'.cell? ⟨g, j, none⟩ = some (.int .i64 sj)) (exact HFS.out _ (Below.refl _ _).drew)
        (first | (go_at_call 48; refine (HN48.out _).mono ?_; rintro e w2 ⟨rfl, rfl⟩))
      have HT7 : Hid (Two wc.drew (w.heap.size + 1) (.slice (some ⟨g, 0, none⟩) s1.length cg) (.slice (some ⟨g', 0, none⟩) d1.length cg') s1 d1 ∧ Below (w.heap.size + 1) W1 wc.drew ∧ wc.drew.heap[b9]? = some (.cells #[.int .i64 tm, .bool false, .int .i64 r, .int .i64 j, .int .i64 mv] 39 (0, 0)) ∧ wc.drew.cell? ⟨g', j, none⟩ = some (.int .i64 dj)) :=
        Lib.hid ⟨HT.out.1.below (Below.refl _ _).drew, HT.out.2.1.drew, stays HT.out.2.2 (Below.refl _ _).drew, hcd⟩
      generalize wc.drew = w7 at HT7 ⊢
      clear m2 e2 e3 e4 hkm hcs hcd HFS HT
      cases bq
      · have HN : Hid (o = none) := Lib.hid (by
          rw [← HJ.out.2.2, HDR.out]
          refine stF_stop hj1 hr1 (.inl ?_)
          rw [ES.out, HSJ.out, HQ.out.1]
          have := HQ.out.2
          simpa using this)
        go_wp2_with fail
        go_quiet (fail)
        have HB8 := Lib.hid (below_drewN HT7.out.2.1 nq)
        generalize World.drewN _ nq = w8 at HB8 ⊢
        go_wp2_with fail
        go_ret2
        refine ⟨?_, (HLW.out _ HB8.out).2.1⟩
        rw [HN.out]
        rfl
      have HQ0 : Hid (q ≠ 0) := Lib.hid (by have := HQ.out.2; simpa using this)
      have e2 := cell_of HT7.out.2.2.1 2
      have e3 := cell_of HT7.out.2.2.1 3
      have hcd := HT7.out.2.2.2
      by_cases hdj : dj = (r : Int)
      rotate_left
      · have HN : Hid (o = none) := Lib.hid (by
          rw [← HJ.out.2.2, HDR.out]
          refine stF_stop hj1 hr1 (.inr ?_)
          rw [ED.out, HDJ.out]
          exact hdj)
        have hdf : (dj != (r : Int)) = true := by simpa using hdj
        have hdg : (dj == (r : Int)) = false := by simpa using hdj
        clear hdj
        go_wp2_with fail
        go_quiet (fail)
        have HB8 := Lib.hid (below_drewN HT7.out.2.1 nq)
        generalize World.drewN _ nq = w8 at HB8 ⊢
        clear e2 e3 hcd
        go_wp2_with fail
        go_ret2
        refine ⟨?_, (HLW.out _ HB8.out).2.1⟩
        rw [HN.out]
        rfl
      have HDR2 := Lib.hid hdj
      have hdf : (dj != (r : Int)) = false := by simpa using hdj
      have hdg : (dj == (r : Int)) = true := by simpa using hdj
      clear hdj
      go_wp2_with fail
      go_quiet (fail)
      have HT8 : Hid (Two (w7.drewN nq) (w.heap.size + 1) (.slice (some ⟨g, 0, none⟩) s1.length cg) (.slice (some ⟨g', 0, none⟩) d1.length cg') s1 d1 ∧ Below (w.heap.size + 1) W1 (w7.drewN nq) ∧ (w7.drewN nq).heap[b9]? = some (.cells #[.int .i64 tm, .bool false, .int .i64 r, .int .i64 j, .int .i64 mv] 39 (0, 0))) :=
        Lib.hid ⟨HT7.out.1.below (below_drewN (Below.refl _ _) nq), below_drewN HT7.out.2.1 nq, stays HT7.out.2.2.1 (below_drewN (Below.refl _ _) nq)⟩
      generalize w7.drewN nq = w8 at HT8 ⊢
      clear e2 e3 hcd
      have e3 := cell_of HT8.out.2.2 3
      obtain ⟨g2, cg2, ev2, hgb, -, hcs, hfs, hset⟩ := HT8.out.1.set hjs
      injection ev2 with ev2 _ ec2
      injection ev2 with ev2
      injection ev2 with ev2 _ _
      subst ev2 ec2
      have HSET := Lib.hid hset
      have HGB := Lib.hid hgb
      clear hset hgb
      go_wp2_with fail
      go_roundg (l.length - (k + 1))
      case rel => exact ⟨k + 1, by omega, by omega, by first | rfl | rw [w64 (by omega) (by omega)], s1.set j q, d1, Lib.hid ⟨HSET.out q, by rw [List.length_set]; exact HLS.out, by rw [List.length_set]; exact hlk, by
        rw [← HJ.out.2.2, HDR.out, stF_good hj1 hr1 (by rw [ES.out, HSJ.out, HQ.out.1]; exact HQ0.out) (by rw [ED.out, HDJ.out]; exact HDR2.out), ES.out, ED.out, HSJ.out, HQ.out.1], HT8.out.2.1.setCell HGB.out _⟩⟩
      case measure => have := HG.out; omega
end Go.Proofs.Ytaddhackggbdkaa
/-! The two laws on states, walked over what they call; conditions: the model and the events lie in the world. -/
namespace Go.Proofs.Ytaddhackggbdkaa
open Go.RowKit Go.Proofs.YtaddhackggbdkaaW.PrintWords Go.Proofs.YtaddhackggbdkaaW.PrintLast Go.Proofs.YtaddhackggbdkaaW.PrintMore PHistTells
set_option maxRecDepth 100000
set_option linter.unusedSimpArgs false
theorem stepF_len {K : Nat → Int} {np : Nat} {e : S39} {s d : List Int} {p : List Int × List Int} (h : stepF K np e s d = some p) : s.length ≤ p.1.length := by
  unfold stepF at h
  by_cases h1 : e.f1 = true
  · rw [if_pos h1] at h
    injection h with h
    rw [← h]
    exact Nat.le_refl _
  rw [if_neg h1] at h
  by_cases h2 : e.f3 < 0 ∨ (s.length : Int) < e.f3 ∨ e.f2 < 0 ∨ (np : Int) ≤ e.f2
  · rw [if_pos h2] at h
    cases h
  rw [if_neg h2] at h
  have hs : s.length ≤ (if e.f3 = (s.length : Int) then s ++ [0] else s).length := by
    by_cases h3 : e.f3 = (s.length : Int)
    · rw [if_pos h3]
      simp
    · rw [if_neg h3]
      exact Nat.le_refl _
  generalize (if e.f3 = (s.length : Int) then s ++ [0] else s) = s1 at h hs
  generalize (if e.f3 = (s.length : Int) then d ++ [e.f2] else d) = d1 at h
  by_cases h4 : nx (K e.f2.toNat) (s1.getD e.f3.toNat 0) e.f4 = 0 ∨ d1.getD e.f3.toNat 0 ≠ e.f2
  · rw [if_pos h4] at h
    cases h
  · rw [if_neg h4] at h
    injection h with h
    rw [← h]
    simpa using hs
theorem stF_len {K : Nat → Int} {np : Nat} : ∀ {l : List S39} {s d r : List Int}, stF K np l s d = some r → s.length ≤ r.length
  | [], s, d, r, h => by
    injection h with h
    rw [h]
    exact Nat.le_refl _
  | e :: l, s, d, r, h => by
    rw [stF_cons] at h
    cases hp : stepF K np e s d with
    | none => rw [hp] at h; cases h
    | some p =>
      rw [hp] at h
      exact Nat.le_trans (stepF_len hp) (stF_len h)
theorem stF_take {K : Nat → Int} {np : Nat} : ∀ {l : List S39} {s d r : List Int} (m : Nat), stF K np l s d = some r → ∃ r', stF K np (l.take m) s d = some r' ∧ r'.length ≤ r.length
  | [], s, d, r, m, h => ⟨r, by simpa using h, Nat.le_refl _⟩
  | e :: l, s, d, r, 0, h => ⟨s, rfl, stF_len h⟩
  | e :: l, s, d, r, m + 1, h => by
    rw [stF_cons] at h
    rw [List.take_succ_cons]
    cases hp : stepF K np e s d with
    | none => rw [hp] at h; cases h
    | some p =>
      rw [hp] at h
      obtain ⟨r', h1, h2⟩ := stF_take m h
      exact ⟨r', by rw [stF_cons, hp]; exact h1, h2⟩
theorem i64_and_1023 (n : Int) : bits .and .i64 n 1023 = n % 1024 := by
  have h1 : (BitVec.ofInt 64 1023).toNat = 2 ^ 10 - 1 := by decide
  have key : (BitVec.ofInt 64 n &&& BitVec.ofInt 64 1023).toNat = (n % ((2 ^ 64 : Nat) : Int)).toNat % 2 ^ 10 := by
    rw [BitVec.toNat_and, BitVec.toNat_ofInt, h1, Nat.and_two_pow_sub_one_eq_mod]
  show IntKind.i64.wrap ((BitVec.ofInt 64 n &&& BitVec.ofInt 64 1023).toNat : Nat) = n % 1024
  rw [key, IntKind.wrap_i64]
  omega
theorem Rd.first {w : World} {A : Option Addr} {l : List S39} (h : Rd w A l) (n : Nat) : Rd w A (l.take n) := by
  rcases h with rfl | ⟨ad, rfl, hlt, hc⟩
  · exact .inl (by simp)
  · refine .inr ⟨ad, rfl, hlt, fun j u hj => hc j u ?_⟩
    have e : evs l = evs (l.take n) ++ evs (l.drop n) := by rw [← evs_append, List.take_append_drop]
    rw [e, List.getElem?_append_left (List.getElem?_eq_some_iff.1 hj).1]
    exact hj
set_option maxHeartbeats 4000000 in
theorem histStates_walk (W : World) (M : Mod) (hM : ModOk W M) (A : Option Addr) (l : List S39) (c : Nat) (hR : Rd W A l) : Calls Try.prog 6 #[M.v, .slice A l.length c] W fun e w' => e = .returned (.bool true) ∧ Below W.heap.size W w' := by
  have HH : Hid (∀ w, Below W.heap.size W w → Calls Try.prog 29 #[M.v] w fun e w' => RetB e ∧ Below w.heap.size w w') := Lib.hid (fun w hw => heavy_any W M hM w hw)
  have HI : Hid (∀ w, Below W.heap.size W w → Calls Try.prog 30 #[M.v] w fun e w' => RetB e ∧ Below w.heap.size w w') := Lib.hid (fun w hw => model_any W M hM w hw)
  obtain ⟨o, ho⟩ : ∃ o, stF (kindOf W M.A2) M.l2 l [] [] = o := ⟨_, rfl⟩
  have H31 : Hid (l.length ≤ 200 → ∀ w, Below W.heap.size W w → Calls Try.prog 31 #[M.v, .slice A l.length c] w fun e w' => ResS o (w.heap.size + 1) e w' ∧ Below w.heap.size w w') := Lib.hid (fun hl w hw => by rw [← ho]; exact states31 W M hM A l c hR hl w hw)
  have H32 : Hid (l.length ≤ 200 → ∀ w, Below W.heap.size W w → Calls Try.prog 32 #[M.v, .slice A l.length c] w fun e w' => ResS o (w.heap.size + 1) e w' ∧ Below w.heap.size w w') := Lib.hid (fun hl w hw => by rw [← ho]; exact states32 W M hM A l c hR hl w hw)
  clear ho hM hR
  obtain ⟨A0, l0, c0, A1, l1, c1, A2, l2, c2⟩ := M
  unfold Mod.v at HH HI H31 H32 ⊢
  have H1 : Hid (Below W.heap.size W (W.alloc (.cells #[.slice A0 l0 c0, .slice A1 l1 c1, .slice A2 l2 c2] 53)) ∧ (W.alloc (.cells #[.slice A0 l0 c0, .slice A1 l1 c1, .slice A2 l2 c2] 53)).heap[W.heap.size]? = some (.cells #[.slice A0 l0 c0, .slice A1 l1 c1, .slice A2 l2 c2] 53 (0, 0))) :=
    Lib.hid ⟨(Below.refl _ _).alloc (Nat.le_refl _) _, heap_alloc_new W _⟩
  go_enter Try.func6, Try.ntmps6
  go_upto_region 1 with fail
  generalize W.alloc (.cells #[.slice A0 l0 c0, .slice A1 l1 c1, .slice A2 l2 c2] 53) = W1 at H1 ⊢
  have HLM : Hid (∀ w', Below W1.heap.size W1 w' → Below W.heap.size W w' ∧ w'.cell? ⟨W.heap.size, 0, none⟩ = some (.slice A0 l0 c0) ∧ w'.cell? ⟨W.heap.size, 1, none⟩ = some (.slice A1 l1 c1) ∧ w'.cell? ⟨W.heap.size, 2, none⟩ = some (.slice A2 l2 c2)) := Lib.hid (fun w' hb => by
    have hh := stays H1.out.2 hb
    exact ⟨below_on H1.out.1 hb, cell_of hh 0, cell_of hh 1, cell_of hh 2⟩)
  go_cut [21] from 10 (fun s21 wx => (∃ b : Bool, s21 = .bool b ∧ (b = false → l.length ≤ 200)) ∧ Below W1.heap.size W1 wx)
  case first =>
    obtain ⟨-, m0, m1, m2⟩ := HLM.out W1 (Below.refl _ _)
    go_wp2_with fail
    refine (HH.out W1 H1.out.1).mono ?_
    rintro e w2 ⟨⟨z, rfl⟩, hb2⟩
    have HB2 := Lib.hid hb2
    clear hb2 m0 m1 m2
    obtain ⟨-, m0, m1, m2⟩ := HLM.out w2 HB2.out
    cases z
    rotate_left
    · go_wp2_with fail
      all_goals (go_meet; exact ⟨⟨_, rfl, fun h => by cases h⟩, HB2.out⟩)
    by_cases hl : l.length ≤ 200
    · have hl1 : ¬ (200 : Int) < (l.length : Int) := by omega
      go_wp2_with fail
      refine (HI.out w2 (HLM.out w2 HB2.out).1).mono ?_
      rintro e w3 ⟨⟨z, rfl⟩, hb3⟩
      have HB3 := Lib.hid (below_on HB2.out hb3)
      clear hb3 m0 m1 m2
      go_wp2_with fail
      all_goals (go_meet; exact ⟨⟨_, rfl, fun _ => hl⟩, HB3.out⟩)
    · have hl1 : (200 : Int) < (l.length : Int) := by omega
      go_wp2_with fail
      all_goals (go_meet; exact ⟨⟨_, rfl, fun h => by cases h⟩, HB2.out⟩)
  case rest =>
    obtain ⟨⟨b, rfl, hl⟩, hb⟩ := hcut
    have HB0 := Lib.hid hb
    clear hb
    cases b
    rotate_left
    · go_wp2_with fail
      go_ret
      exact ⟨rfl, (HLM.out _ HB0.out).1⟩
    have HL := Lib.hid (hl rfl)
    clear hl
    obtain ⟨-, m0, m1, m2⟩ := HLM.out wc HB0.out
    go_wp2_with fail
    refine (H31.out HL.out wc (HLM.out _ HB0.out).1).mono ?_
    rintro e w2 ⟨hr, hb2⟩
    have HB2 := Lib.hid (below_on HB0.out hb2)
    clear hb2 m0 m1 m2
    obtain ⟨-, m0, m1, m2⟩ := HLM.out w2 HB2.out
    cases o with
    | none =>
      have hr : e = .returned (.tuple #[.slice none 0 0, .bool false]) := hr
      subst hr
      go_wp2_with fail
      refine (H32.out HL.out w2 (HLM.out _ HB2.out).1).mono ?_
      rintro e w3 ⟨hr, hb3⟩
      have hr : e = .returned (.tuple #[.slice none 0 0, .bool false]) := hr
      subst hr
      have HB3 := Lib.hid (below_on HB2.out hb3)
      clear hb3 m0 m1 m2
      go_wp2_with fail
      go_loopg [9] 1 (fun g i wr => g = 1 ∧ i = .int .i64 0 ∧ wr = w3)
      case atStart => exact ⟨rfl, rfl, rfl⟩
      case round =>
        obtain ⟨-, rfl, rfl⟩ := hrel
        go_wp2_with fail
        refine (known_true _).mono ?_
        rintro e w4 ⟨rfl, hb4⟩
        have HB4 := Lib.hid (below_on HB3.out hb4)
        clear hb4
        go_wp2_with fail
        go_ret
        exact ⟨rfl, (HLM.out _ HB4.out).1⟩
    | some s =>
      obtain ⟨v, rfl, hv⟩ := hr
      have HV := Lib.hid hv
      obtain ⟨Av, cv, ev, -, -⟩ := hv.shape
      subst ev
      clear hv
      go_wp2_with fail
      refine (H32.out HL.out w2 (HLM.out _ HB2.out).1).mono ?_
      rintro e w3 ⟨hr, hb3⟩
      obtain ⟨v2, rfl, hv2⟩ := hr
      have HV2 := Lib.hid hv2
      have HV3 := Lib.hid (HV.out.below hb3)
      obtain ⟨Av2, cv2, ev2, -, -⟩ := hv2.shape
      subst ev2
      have HB3 := Lib.hid (below_on HB2.out hb3)
      clear hb3 m0 m1 m2 hv2
      go_wp2_with fail
      go_loopg [9] s.length (fun g i wr => ∃ j : Nat, j ≤ s.length ∧ g + j = s.length ∧ i = .int .i64 j ∧ Below w3.heap.size w3 wr)
      case atStart => exact ⟨0, Nat.zero_le _, by omega, rfl, Below.refl _ _⟩
      case round =>
        obtain ⟨j, hj, hg, rfl, hb⟩ := hrel
        have HG := Lib.hid hg
        have HB := Lib.hid hb
        clear hb hg
        by_cases hlt : j < s.length
        · obtain ⟨g, cg, e1, -, -, hc1, -, -, -⟩ := (HV3.out.below HB.out).at hlt
          obtain ⟨g', cg', e2, -, -, hc2, -, -, -⟩ := (HV2.out.below HB.out).at hlt
          injection e1 with e1 _ ec1
          injection e2 with e2 _ ec2
          subst e1 e2 ec1 ec2
          generalize s.getD j 0 = sj at hc1 hc2
          have hlti : (j : Int) < (s.length : Int) := by omega
          have hsz : s.length ≤ 9223372036854775807 := by
            obtain ⟨_, c, e, h1, h2⟩ := HV2.out.shape
            exact Nat.le_trans h1 (Nat.le_trans h2 maxLen_le)
          go_wp2_with fail
          go_quiet (fail)
          have HBq := Lib.hid (below_drewN HB.out nq)
          generalize World.drewN _ nq = w8 at HBq ⊢
          clear hc1 hc2
          go_wp2_with fail
          go_roundg (s.length - (j + 1))
          case rel => exact ⟨j + 1, by omega, by omega, by first | rfl | rw [w64 (by omega) hsz], HBq.out⟩
          case measure => have := HG.out; omega
        · go_wp2_with fail
          refine (known_true wr).mono ?_
          rintro e w4 ⟨rfl, hb4⟩
          have HB4 := Lib.hid (below_on HB3.out (below_on HB.out hb4))
          clear hb4
          go_wp2_with fail
          go_ret
          exact ⟨rfl, (HLM.out _ HB4.out).1⟩
set_option maxHeartbeats 4000000 in
theorem histHeads_walk (W : World) (M : Mod) (hM : ModOk W M) (A : Option Addr) (l : List S39) (c : Nat) (hc : l.length ≤ c) (hR : Rd W A l) (k : Int) : Calls Try.prog 7 #[M.v, .slice A l.length c, .int .i64 k] W fun e w' => e = .returned (.bool true) ∧ Below W.heap.size W w' := by
  have HH : Hid (∀ w, Below W.heap.size W w → Calls Try.prog 29 #[M.v] w fun e w' => RetB e ∧ Below w.heap.size w w') := Lib.hid (fun w hw => heavy_any W M hM w hw)
  have HI : Hid (∀ w, Below W.heap.size W w → Calls Try.prog 30 #[M.v] w fun e w' => RetB e ∧ Below w.heap.size w w') := Lib.hid (fun w hw => model_any W M hM w hw)
  obtain ⟨o, ho⟩ : ∃ o, stF (kindOf W M.A2) M.l2 l [] [] = o := ⟨_, rfl⟩
  have H31 : Hid (l.length ≤ 200 → ∀ w, Below W.heap.size W w → Calls Try.prog 31 #[M.v, .slice A l.length c] w fun e w' => ResS o (w.heap.size + 1) e w' ∧ Below w.heap.size w w') := Lib.hid (fun hl w hw => by rw [← ho]; exact states31 W M hM A l c hR hl w hw)
  have H31b : Hid (l.length ≤ 200 → ∀ s, o = some s → ∀ m, m < l.length → ∃ s', s'.length ≤ s.length ∧ ∀ w, Below W.heap.size W w → Calls Try.prog 31 #[M.v, .slice A m c] w fun e w' => (∃ v, e = .returned (.tuple #[v, .bool true]) ∧ OwnI w' (w.heap.size + 1) v s') ∧ Below w.heap.size w w') := Lib.hid (fun hl s hs m hm => by
    rw [hs] at ho
    obtain ⟨s', h1, h2⟩ := stF_take m ho
    have hlen : (l.take m).length = m := by rw [List.length_take]; omega
    refine ⟨s', h2, fun w hw => ?_⟩
    have := states31 W M hM A (l.take m) c (hR.first m) (by omega) w hw
    rw [hlen, h1] at this
    exact this)
  have HA : Hid (0 < l.length → ∃ ad, A = some ad) := Lib.hid (fun h => by
    rcases hR with e | ⟨ad, e, _⟩
    · rw [e] at h
      simp at h
    · exact ⟨ad, e⟩)
  clear ho hM hR
  obtain ⟨A0, l0, c0, A1, l1, c1, A2, l2, c2⟩ := M
  unfold Mod.v at HH HI H31 H31b ⊢
  have H1 : Hid (Below W.heap.size W (W.alloc (.cells #[.slice A0 l0 c0, .slice A1 l1 c1, .slice A2 l2 c2] 53)) ∧ (W.alloc (.cells #[.slice A0 l0 c0, .slice A1 l1 c1, .slice A2 l2 c2] 53)).heap[W.heap.size]? = some (.cells #[.slice A0 l0 c0, .slice A1 l1 c1, .slice A2 l2 c2] 53 (0, 0))) :=
    Lib.hid ⟨(Below.refl _ _).alloc (Nat.le_refl _) _, heap_alloc_new W _⟩
  go_enter Try.func7, Try.ntmps7
  go_upto_region 1 with fail
  generalize W.alloc (.cells #[.slice A0 l0 c0, .slice A1 l1 c1, .slice A2 l2 c2] 53) = W1 at H1 ⊢
  have HLM : Hid (∀ w', Below W1.heap.size W1 w' → Below W.heap.size W w' ∧ w'.cell? ⟨W.heap.size, 0, none⟩ = some (.slice A0 l0 c0) ∧ w'.cell? ⟨W.heap.size, 1, none⟩ = some (.slice A1 l1 c1) ∧ w'.cell? ⟨W.heap.size, 2, none⟩ = some (.slice A2 l2 c2)) := Lib.hid (fun w' hb => by
    have hh := stays H1.out.2 hb
    exact ⟨below_on H1.out.1 hb, cell_of hh 0, cell_of hh 1, cell_of hh 2⟩)
  go_cut [28] from 12 (fun s28 wx => (∃ b : Bool, s28 = .bool b ∧ (b = false → l.length ≤ 200 ∧ 0 < l.length)) ∧ Below W1.heap.size W1 wx)
  case first =>
    obtain ⟨-, m0, m1, m2⟩ := HLM.out W1 (Below.refl _ _)
    go_wp2_with fail
    refine (HH.out W1 H1.out.1).mono ?_
    rintro e w2 ⟨⟨z, rfl⟩, hb2⟩
    have HB2 := Lib.hid hb2
    clear hb2 m0 m1 m2
    obtain ⟨-, m0, m1, m2⟩ := HLM.out w2 HB2.out
    cases z
    rotate_left
    · go_wp2_with fail
      all_goals (go_meet; exact ⟨⟨_, rfl, fun h => by cases h⟩, HB2.out⟩)
    by_cases hl : l.length ≤ 200
    · have hl1 : ¬ (200 : Int) < (l.length : Int) := by omega
      by_cases h0 : l.length = 0
      · have hl2 : ((l.length : Int) == 0) = true := by rw [h0]; rfl
        have H0 := Lib.hid h0
        clear h0
        go_wp2_with fail
        all_goals (go_meet; exact ⟨⟨_, rfl, fun h => by cases h⟩, HB2.out⟩)
      · have hl2 : ((l.length : Int) == 0) = false := by simpa using h0
        have H0 : Hid (0 < l.length) := Lib.hid (by omega)
        clear h0
        go_wp2_with fail
        refine (HI.out w2 (HLM.out w2 HB2.out).1).mono ?_
        rintro e w3 ⟨⟨z, rfl⟩, hb3⟩
        have HB3 := Lib.hid (below_on HB2.out hb3)
        clear hb3 m0 m1 m2
        go_wp2_with fail
        all_goals (go_meet; exact ⟨⟨_, rfl, fun _ => ⟨hl, H0.out⟩⟩, HB3.out⟩)
    · have hl1 : (200 : Int) < (l.length : Int) := by omega
      go_wp2_with fail
      all_goals (go_meet; exact ⟨⟨_, rfl, fun h => by cases h⟩, HB2.out⟩)
  case rest =>
    obtain ⟨⟨b, rfl, hl⟩, hb⟩ := hcut
    have HB0 := Lib.hid hb
    clear hb
    cases b
    rotate_left
    · go_wp2_with fail
      go_ret
      exact ⟨rfl, (HLM.out _ HB0.out).1⟩
    have HL := Lib.hid (hl rfl)
    clear hl
    obtain ⟨-, m0, m1, m2⟩ := HLM.out wc HB0.out
    go_wp2_with fail
    refine (H31.out HL.out.1 wc (HLM.out _ HB0.out).1).mono ?_
    rintro e w2 ⟨hr, hb2⟩
    have HB2 := Lib.hid (below_on HB0.out hb2)
    clear hb2 m0 m1 m2
    cases o with
    | none =>
      have hr : e = .returned (.tuple #[.slice none 0 0, .bool false]) := hr
      subst hr
      go_wp2_with fail
      refine (known_true w2).mono ?_
      rintro e w4 ⟨rfl, hb4⟩
      have HB4 := Lib.hid (below_on HB2.out hb4)
      clear hb4
      go_wp2_with fail
      go_ret
      exact ⟨rfl, (HLM.out _ HB4.out).1⟩
    | some s =>
      obtain ⟨v, rfl, hv⟩ := hr
      obtain ⟨Av, cv, ev, -, -⟩ := hv.shape
      subst ev
      clear hv
      obtain ⟨m, hm, hmn⟩ : ∃ m : Nat, (bits .and .i64 k 1023).tmod (l.length : Int) = m ∧ m < l.length := by
        have h0 := HL.out.2
        rw [i64_and_1023]
        have h1 := Int.tmod_nonneg (l.length : Int) (show 0 ≤ k % 1024 by omega)
        have h2 := Int.tmod_lt_of_pos (k % 1024) (show 0 < (l.length : Int) by omega)
        exact ⟨((k % 1024).tmod l.length).toNat, by omega, by omega⟩
      obtain ⟨ad, rfl⟩ := HA.out HL.out.2
      obtain ⟨s', hs', hcall⟩ := H31b.out HL.out.1 s rfl m hmn
      have HC := Lib.hid hcall
      have HS := Lib.hid hs'
      clear hcall hs'
      have h0 := HL.out.2
      have hl0 : (l.length : Int) ≠ 0 := by omega
      have hmc : (m : Int) ≤ (c : Int) := by omega
      have hm0 : (0 : Int) ≤ (m : Int) := by omega
      go_upto_region 7 with fail
      have HFS : Hid (∀ w', Below w2.heap.size w2 w' → w'.cell? ⟨W.heap.size, 0, none⟩ = some (.slice A0 l0 c0) ∧ w'.cell? ⟨W.heap.size, 1, none⟩ = some (.slice A1 l1 c1) ∧ w'.cell? ⟨W.heap.size, 2, none⟩ = some (.slice A2 l2 c2)) := Lib.hid (fun w' hb => (HLM.out w' (below_on HB2.out hb)).2)
      obtain ⟨m0, m1, m2⟩ := HFS.out w2 (Below.refl _ _)
      go_region_held3 (fun w' => w'.cell? ⟨W.heap.size, 0, none⟩ = some (.slice A0 l0 c0) ∧ w'.cell? ⟨W.heap.size, 1, none⟩ = some (.slice A1 l1 c1) ∧ w'.cell? ⟨W.heap.size, 2, none⟩ = some (.slice A2 l2 c2))
        (first | exact HFS.out _ H3.out | exact HFS.out _ (Below.refl _ _).drew)
        (first | (go_at_call 31; refine (HC.out _ (HLM.out _ (below_on HB2.out (Below.refl _ _).drew)).1).mono ?_; rintro e w3 ⟨⟨v3, rfl, hv3⟩, hb3⟩; have H3 : Hid (Below w2.heap.size w2 w3) := Lib.hid ((Below.refl w2.heap.size w2).drew.trans hb3); have HV3 := Lib.hid hv3; clear hb3 hv3))
      obtain ⟨Av3, cv3, ev3, -, -⟩ := HV3.out.shape
      subst ev3
      have HB3 := Lib.hid (below_on HB2.out H3.out)
      clear H3 HFS m0 m1 m2
      have hss : (s'.length : Int) ≤ (s.length : Int) := by have := HS.out; omega
      go_wp2_with fail
      refine (known_true w3).mono ?_
      rintro e w4 ⟨rfl, hb4⟩
      have HB4 := Lib.hid (below_on HB3.out hb4)
      clear hb4
      go_wp2_with fail
      go_ret
      exact ⟨rfl, (HLM.out _ HB4.out).1⟩
end Go.Proofs.Ytaddhackggbdkaa
/-! The two laws on states, as their rows call them; conditions: the model and the events lie in the world. -/
namespace Go.Proofs.Ytaddhackggbdkaa
open Go.RowKit PHistTells
theorem histStates_row (W : World) (M : Mod) (hM : ModOk W M) (a : Option Addr) (len cap : Nat) (z : List S39) (g : EvIn W a len cap z) : Calls Try.prog 6 #[M.v, .slice a len cap] W fun e w' => e = .returned (.bool true) ∧ Below W.heap.size W w' := by
  obtain ⟨rfl, _, _, h4, _⟩ := g
  exact histStates_walk W M hM a z cap h4
theorem histHeads_row (W : World) (M : Mod) (hM : ModOk W M) (a : Option Addr) (len cap : Nat) (z : List S39) (g : EvIn W a len cap z) (k : Int) : Calls Try.prog 7 #[M.v, .slice a len cap, .int .i64 k] W fun e w' => e = .returned (.bool true) ∧ Below W.heap.size W w' := by
  obtain ⟨rfl, h2, _, h4, _⟩ := g
  exact histHeads_walk W M hM a z cap h2 h4 k
end Go.Proofs.Ytaddhackggbdkaa
