/- The parser's smallest part, walked. Conditions stand in each part's own head. -/
import Derived.Test.YtaddhackggbdkaaHsD
/-! The parser's smallest part, walked over contracts of the whole; condition: the reader stands on tokens that lie in an elder world. -/
namespace Go.Proofs.Ytaddhackggbdkaa
open Go.RowKit Go.Proofs.YtaddhackggbdkaaW.PrintLast
set_option maxRecDepth 100000
set_option linter.unusedSimpArgs false
set_option maxHeartbeats 4000000 in
theorem atom_any (x : Cx) (hx : x.ok) (d : Int) (hd0 : 0 ≤ d) (hd8 : d ≤ 8) (hE : x.PE 70 (d + 1)) : x.PE 96 d := by
  intro w a h
  have hne : w.heap.size ≠ x.g := by have := h.lt; omega
  have hge : x.w0.heap.size ≤ w.heap.size := h.old.size
  obtain ⟨W1, hW1⟩ : ∃ W1, w.alloc (.cells #[.int .i64 0, .bool false, .int .i64 0, .int .i64 0, .string ⟨#[]⟩, .bool false, .bool false, .slice none 0 0] 110) = W1 := ⟨_, rfl⟩
  have H1 : Hid (x.at W1 a ∧ x.kp w W1 ∧ W1.heap[w.heap.size]? = some (.cells #[.int .i64 0, .bool false, .int .i64 0, .int .i64 0, .string ⟨#[]⟩, .bool false, .bool false, .slice none 0 0] 110 (0, 0))) := Lib.hid (by rw [← hW1]; exact ⟨h.alloc _, (Cx.kp.refl _ _).alloc _, heap_alloc_new w _⟩)
  have hlt1 : w.heap.size < W1.heap.size := (Array.getElem?_eq_some_iff.1 H1.out.2.2).1
  clear h
  have HE := Lib.hid hE
  clear hE
  have hlen := hx.len
  have hd1 : wrap64 (d + 1) = d + 1 := by unfold wrap64; omega
  have HW : Hid (∀ w a, x.at w a → Calls Try.prog 70 #[.pointer (some ⟨x.g, 0, none⟩), .int .i64 (wrap64 (d + 1))] w fun e w' => x.ex w a e w') := Lib.hid (by rw [hd1]; exact HE.out)
  clear hd1
  obtain ⟨en, er, po, hh, c0, c1, -, c3, -, -, -, -⟩ := H1.out.1.cells
  clear hh
  by_cases hs : er = 0 ∧ a < x.l
  rotate_left
  · have hs' : er = 0 → ¬ a < x.l := fun h1 h2 => hs ⟨h1, h2⟩
    clear hs
    have HF0 : Hid (∀ n, x.at (W1.drewN n) a ∧ x.kp w (W1.drewN n) ∧ (W1.drewN n).heap[w.heap.size]? = some (.cells #[.int .i64 0, .bool false, .int .i64 0, .int .i64 0, .string ⟨#[]⟩, .bool false, .bool false, .slice none 0 0] 110 (0, 0))) := Lib.hid fun n => ⟨H1.out.1.below (below_drewN (Below.refl _ _) n), H1.out.2.1.below (below_drewN (Below.refl _ _) n), H1.out.2.2⟩
    by_cases he : er = 0
    · have hl : x.l ≤ a := by have := hs' he; omega
      subst he
      clear hs'
      go_enter Try.func96, Try.ntmps96
      go_wp2_with fail
      go_quiet (fail)
      have H2 := Lib.hid (HF0.out nq)
      generalize W1.drewN nq = w2 at H2 ⊢
      clear c0 c1 c3 HF0
      go_wp2_with fail
      refine (fail_any x hx w2 a 2 H2.out.1).mono ?_
      rintro e w3 ⟨rfl, hF, kF, -⟩
      have H11 : Hid (x.at w3 a ∧ x.kp w w3 ∧ w3.heap[w.heap.size]? = some (.cells #[.int .i64 0, .bool false, .int .i64 0, .int .i64 0, .string ⟨#[]⟩, .bool false, .bool false, .slice none 0 0] 110 (0, 0))) := Lib.hid ⟨hF, H2.out.2.1.trans kF, kF.blk H2.out.2.2 hne⟩
      clear hF kF
      have hhc := H11.out.2.2
      obtain ⟨c0, c1, c2, c3, c4, c5, c6, c7, cf0, cf1, cf2, cf3, cf4, cf5, cf6, cf7⟩ := cells8 hhc
      clear hhc
      go_wp2_with fail
      refine bodyPost_ret (results_cell_row rfl _ _ w.heap.size 110 _ (0, 0) _ rfl (put8 H11.out.2.2 _ _ _ _ _ _ _ _) Try.underlying110 rfl (by kernel_rfl)) rfl ?_
      have hat := H11.out.1
      have hkp := H11.out.2.1
      exact ⟨⟨⟨_, _, _, _, _, _, _, _, _, _⟩, rfl⟩, a, Nat.le_refl _, (by repeat (with_reducible first | exact hat | refine Cx.at.other ?_ hne hge _ | refine Cx.at.alloc ?_ _ | refine Cx.at.drew ?_)), (by repeat (with_reducible first | exact hkp | refine Cx.kp.other ?_ (Nat.le_refl _) _ | refine Cx.kp.alloc ?_ _ | refine Cx.kp.drew ?_))⟩
    · clear hs'
      go_enter Try.func96, Try.ntmps96
      go_wp2_with fail
      go_quiet (fail)
      have H2 := Lib.hid (HF0.out nq)
      generalize W1.drewN nq = w2 at H2 ⊢
      clear c0 c1 c3 HF0
      go_wp2_with fail
      refine (fail_any x hx w2 a 2 H2.out.1).mono ?_
      rintro e w3 ⟨rfl, hF, kF, -⟩
      have H12 : Hid (x.at w3 a ∧ x.kp w w3 ∧ w3.heap[w.heap.size]? = some (.cells #[.int .i64 0, .bool false, .int .i64 0, .int .i64 0, .string ⟨#[]⟩, .bool false, .bool false, .slice none 0 0] 110 (0, 0))) := Lib.hid ⟨hF, H2.out.2.1.trans kF, kF.blk H2.out.2.2 hne⟩
      clear hF kF
      have hhc := H12.out.2.2
      obtain ⟨c0, c1, c2, c3, c4, c5, c6, c7, cf0, cf1, cf2, cf3, cf4, cf5, cf6, cf7⟩ := cells8 hhc
      clear hhc
      go_wp2_with fail
      refine bodyPost_ret (results_cell_row rfl _ _ w.heap.size 110 _ (0, 0) _ rfl (put8 H12.out.2.2 _ _ _ _ _ _ _ _) Try.underlying110 rfl (by kernel_rfl)) rfl ?_
      have hat := H12.out.1
      have hkp := H12.out.2.1
      exact ⟨⟨⟨_, _, _, _, _, _, _, _, _, _⟩, rfl⟩, a, Nat.le_refl _, (by repeat (with_reducible first | exact hat | refine Cx.at.other ?_ hne hge _ | refine Cx.at.alloc ?_ _ | refine Cx.at.drew ?_)), (by repeat (with_reducible first | exact hkp | refine Cx.kp.other ?_ (Nat.le_refl _) _ | refine Cx.kp.alloc ?_ _ | refine Cx.kp.drew ?_))⟩
  obtain ⟨he, hl⟩ := hs
  subst he
  have hlx : ¬ x.l ≤ a := by omega
  obtain ⟨ad, k, t, ps, e, ht, d0, d1, d2⟩ := H1.out.1.tok hx hl
  rw [e] at c0
  go_enter Try.func96, Try.ntmps96
  go_wp2_with fail
  go_quiet (fail)
  have H3 : Hid (x.at (W1.drewN nq) a ∧ x.kp w (W1.drewN nq) ∧ (W1.drewN nq).heap[w.heap.size]? = some (.cells #[.int .i64 0, .bool false, .int .i64 0, .int .i64 0, .string ⟨#[]⟩, .bool false, .bool false, .slice none 0 0] 110 (0, 0))) := Lib.hid ⟨H1.out.1.below (below_drewN (Below.refl _ _) nq), H1.out.2.1.below (below_drewN (Below.refl _ _) nq), H1.out.2.2⟩
  replace c0 : (W1.drewN nq).cell? _ = _ := c0
  replace c1 : (W1.drewN nq).cell? _ = _ := c1
  replace d0 : (W1.drewN nq).cell? _ = _ := d0
  replace d1 : (W1.drewN nq).cell? _ = _ := d1
  replace d2 : (W1.drewN nq).cell? _ = _ := d2
  generalize W1.drewN nq = w3 at H3 c0 c1 d0 d1 d2 ⊢
  clear c3
  have HF : Hid (∀ w', Below w3.heap.size w3 w' → w'.cell? ⟨x.g, 0, none⟩ = some (.slice (some ad) x.l x.c) ∧ w'.cell? ⟨x.g, 1, none⟩ = some (.int .i64 a) ∧ w'.cell? (ad.add (a * 3)) = some (.int .i64 k) ∧ w'.cell? ⟨(ad.add (a * 3)).block, (ad.add (a * 3)).off + 1, none⟩ = some (.string t) ∧ w'.cell? ⟨(ad.add (a * 3)).block, (ad.add (a * 3)).off + 2, none⟩ = some (.int .i64 ps)) := Lib.hid (fun w' hb => ⟨cell_below hb (lt_of_cell c0) c0, cell_below hb (lt_of_cell c1) c1, cell_below hb (lt_of_cell d0) d0, cell_below hb (lt_of_cell d1) d1, cell_below hb (lt_of_cell d2) d2⟩)
  go_wp2_with fail
  go_region_held3 (fun w' => w'.cell? ⟨x.g, 0, none⟩ = some (.slice (some ad) x.l x.c) ∧ w'.cell? ⟨x.g, 1, none⟩ = some (.int .i64 a) ∧ w'.cell? (ad.add (a * 3)) = some (.int .i64 k) ∧ w'.cell? ⟨(ad.add (a * 3)).block, (ad.add (a * 3)).off + 1, none⟩ = some (.string t) ∧ w'.cell? ⟨(ad.add (a * 3)).block, (ad.add (a * 3)).off + 2, none⟩ = some (.int .i64 ps))
    (exact HF.out _ (by go_grown)) (fail)
  clear c0 c1 d0 d1 d2 HF e
  obtain ⟨b5, hb5⟩ : ∃ b, w3.heap.size = b := ⟨_, rfl⟩
  have hb5g : b5 ≠ x.g := by have := H3.out.1.lt; omega
  have hb5w : w.heap.size < b5 := by have := blk_in H3.out.2.2; omega
  have H4 : Hid (x.at (w3.alloc (.cells #[.int .i64 k, .string t, .int .i64 ps] 124)).drew a ∧ x.kp w (w3.alloc (.cells #[.int .i64 k, .string t, .int .i64 ps] 124)).drew ∧ (w3.alloc (.cells #[.int .i64 k, .string t, .int .i64 ps] 124)).drew.heap[w.heap.size]? = some (.cells #[.int .i64 0, .bool false, .int .i64 0, .int .i64 0, .string ⟨#[]⟩, .bool false, .bool false, .slice none 0 0] 110 (0, 0)) ∧ (w3.alloc (.cells #[.int .i64 k, .string t, .int .i64 ps] 124)).drew.heap[b5]? = some (.cells #[.int .i64 k, .string t, .int .i64 ps] 124 (0, 0))) := Lib.hid ⟨(H3.out.1.alloc _).drew, (H3.out.2.1.alloc _).drew, alloc_blk H3.out.2.2, by rw [← hb5]; exact heap_alloc_new w3 _⟩
  try rw [hb5]
  generalize (w3.alloc (.cells #[.int .i64 k, .string t, .int .i64 ps] 124)).drew = w4 at H4 ⊢
  clear hb5 hW1 hlt1
  have e0 := cell_of H4.out.2.2.2 0
  have e1 := cell_of H4.out.2.2.2 1
  replace e0 : w4.cell? ⟨b5, 0, none⟩ = some (.int .i64 k) := e0
  replace e1 : w4.cell? ⟨b5, 1, none⟩ = some (.string t) := e1
  by_cases hk2 : k = 2
  · rw [hk2] at e0
    clear hk2
    go_wp2_with fail
    clear e0
    refine (parse1_any t ht w4).mono ?_
    rintro e w5 ⟨⟨m, s, n, rfl⟩, hb⟩
    have h5 := H4.out.1.below hb
    have k5 := Cx.kp.of_below (x := x) hb
    clear hb e1
    have H13 : Hid (x.at w5 a ∧ x.kp w w5 ∧ w5.heap[w.heap.size]? = some (.cells #[.int .i64 0, .bool false, .int .i64 0, .int .i64 0, .string ⟨#[]⟩, .bool false, .bool false, .slice none 0 0] 110 (0, 0)) ∧ w5.heap[b5]? = some (.cells #[.int .i64 k, .string t, .int .i64 ps] 124 (0, 0))) := Lib.hid ⟨h5, H4.out.2.1.trans k5, k5.blk H4.out.2.2.1 hne, k5.blk H4.out.2.2.2 hb5g⟩
    clear h5 k5
    go_upto_region 7 with fail
    obtain ⟨b6, hb6⟩ : ∃ b, w5.heap.size = b := ⟨_, rfl⟩
    have hb6g : b6 ≠ x.g := by have := H13.out.1.lt; omega
    have hb6w : w.heap.size < b6 := by have := blk_in H13.out.2.2.1; omega
    have H14 : Hid (x.at (w5.alloc (.cells #[.int .i64 m, .int .i64 s] 82)) a ∧ x.kp w (w5.alloc (.cells #[.int .i64 m, .int .i64 s] 82)) ∧ (w5.alloc (.cells #[.int .i64 m, .int .i64 s] 82)).heap[w.heap.size]? = some (.cells #[.int .i64 0, .bool false, .int .i64 0, .int .i64 0, .string ⟨#[]⟩, .bool false, .bool false, .slice none 0 0] 110 (0, 0)) ∧ (w5.alloc (.cells #[.int .i64 m, .int .i64 s] 82)).heap[b5]? = some (.cells #[.int .i64 k, .string t, .int .i64 ps] 124 (0, 0)) ∧ (w5.alloc (.cells #[.int .i64 m, .int .i64 s] 82)).heap[b6]? = some (.cells #[.int .i64 m, .int .i64 s] 82 (0, 0))) := Lib.hid ⟨H13.out.1.alloc _, H13.out.2.1.alloc _, alloc_blk H13.out.2.2.1, alloc_blk H13.out.2.2.2, by rw [← hb6]; exact heap_alloc_new w5 _⟩
    try rw [hb6]
    generalize w5.alloc (.cells #[.int .i64 m, .int .i64 s] 82) = w14n at H14 ⊢
    clear hb6
    by_cases hn : n = 0
    · subst hn
      go_upto_region 9 with fail
      obtain ⟨en15, er15, po15, hh15, -, g15, -, -, -, gf15, -, -⟩ := H14.out.1.cells
      clear hh15
      go_upto_region 10 with fail
      clear g15 gf15
      have H15 : Hid (x.at (w14n.setCell ⟨x.g, 1, none⟩ (.int .i64 ((a : Int) + 1))) (a + 1) ∧ x.kp w (w14n.setCell ⟨x.g, 1, none⟩ (.int .i64 ((a : Int) + 1))) ∧ (w14n.setCell ⟨x.g, 1, none⟩ (.int .i64 ((a : Int) + 1))).heap[w.heap.size]? = some (.cells #[.int .i64 0, .bool false, .int .i64 0, .int .i64 0, .string ⟨#[]⟩, .bool false, .bool false, .slice none 0 0] 110 (0, 0)) ∧ (w14n.setCell ⟨x.g, 1, none⟩ (.int .i64 ((a : Int) + 1))).heap[b5]? = some (.cells #[.int .i64 k, .string t, .int .i64 ps] 124 (0, 0)) ∧ (w14n.setCell ⟨x.g, 1, none⟩ (.int .i64 ((a : Int) + 1))).heap[b6]? = some (.cells #[.int .i64 m, .int .i64 s] 82 (0, 0))) := Lib.hid ⟨H14.out.1.set1 hx (a + 1) (by omega), H14.out.2.1.set _ _, (set_other _ _ _ _ (by exact hne)).trans H14.out.2.2.1, (set_other _ _ _ _ (by exact hb5g)).trans H14.out.2.2.2.1, (set_other _ _ _ _ (by exact hb6g)).trans H14.out.2.2.2.2⟩
      generalize w14n.setCell ⟨x.g, 1, none⟩ (.int .i64 ((a : Int) + 1)) = w15n at H15 ⊢
      have hhc := H15.out.2.2.1
      obtain ⟨c0, c1, c2, c3, c4, c5, c6, c7, cf0, cf1, cf2, cf3, cf4, cf5, cf6, cf7⟩ := cells8 hhc
      clear hhc
      have z0 := cell_of H15.out.2.2.2.2 0
      have z1 := cell_of H15.out.2.2.2.2 1
      replace z0 : w15n.cell? ⟨b6, 0, none⟩ = some (.int .i64 m) := z0
      replace z1 : w15n.cell? ⟨b6, 1, none⟩ = some (.int .i64 s) := z1
      go_wp2_with fail
      refine bodyPost_ret (results_cell_row rfl _ _ w.heap.size 110 _ (0, 0) _ rfl (put8 H15.out.2.2.1 _ _ _ _ _ _ _ _) Try.underlying110 rfl (by kernel_rfl)) rfl ?_
      have hat := H15.out.1
      have hkp := H15.out.2.1
      exact ⟨⟨⟨_, _, _, _, _, _, _, _, _, _⟩, rfl⟩, (a + 1), by omega, (by repeat (with_reducible first | exact hat | refine Cx.at.other ?_ hne hge _ | refine Cx.at.alloc ?_ _ | refine Cx.at.drew ?_)), (by repeat (with_reducible first | exact hkp | refine Cx.kp.other ?_ (Nat.le_refl _) _ | refine Cx.kp.alloc ?_ _ | refine Cx.kp.drew ?_))⟩
    · go_wp2_with fail
      refine (fail_any x hx w14n a _ H14.out.1).mono ?_
      rintro e w6 ⟨rfl, hF, kF, -⟩
      have H16 : Hid (x.at w6 a ∧ x.kp w w6 ∧ w6.heap[w.heap.size]? = some (.cells #[.int .i64 0, .bool false, .int .i64 0, .int .i64 0, .string ⟨#[]⟩, .bool false, .bool false, .slice none 0 0] 110 (0, 0)) ∧ w6.heap[b5]? = some (.cells #[.int .i64 k, .string t, .int .i64 ps] 124 (0, 0)) ∧ w6.heap[b6]? = some (.cells #[.int .i64 m, .int .i64 s] 82 (0, 0))) := Lib.hid ⟨hF, H14.out.2.1.trans kF, kF.blk H14.out.2.2.1 hne, kF.blk H14.out.2.2.2.1 hb5g, kF.blk H14.out.2.2.2.2 hb6g⟩
      clear hF kF
      go_upto_region 9 with fail
      obtain ⟨en17, er17, po17, hh17, -, g17, -, -, -, gf17, -, -⟩ := H16.out.1.cells
      clear hh17
      go_upto_region 10 with fail
      clear g17 gf17
      have H17 : Hid (x.at (w6.setCell ⟨x.g, 1, none⟩ (.int .i64 ((a : Int) + 1))) (a + 1) ∧ x.kp w (w6.setCell ⟨x.g, 1, none⟩ (.int .i64 ((a : Int) + 1))) ∧ (w6.setCell ⟨x.g, 1, none⟩ (.int .i64 ((a : Int) + 1))).heap[w.heap.size]? = some (.cells #[.int .i64 0, .bool false, .int .i64 0, .int .i64 0, .string ⟨#[]⟩, .bool false, .bool false, .slice none 0 0] 110 (0, 0)) ∧ (w6.setCell ⟨x.g, 1, none⟩ (.int .i64 ((a : Int) + 1))).heap[b5]? = some (.cells #[.int .i64 k, .string t, .int .i64 ps] 124 (0, 0)) ∧ (w6.setCell ⟨x.g, 1, none⟩ (.int .i64 ((a : Int) + 1))).heap[b6]? = some (.cells #[.int .i64 m, .int .i64 s] 82 (0, 0))) := Lib.hid ⟨H16.out.1.set1 hx (a + 1) (by omega), H16.out.2.1.set _ _, (set_other _ _ _ _ (by exact hne)).trans H16.out.2.2.1, (set_other _ _ _ _ (by exact hb5g)).trans H16.out.2.2.2.1, (set_other _ _ _ _ (by exact hb6g)).trans H16.out.2.2.2.2⟩
      generalize w6.setCell ⟨x.g, 1, none⟩ (.int .i64 ((a : Int) + 1)) = w17n at H17 ⊢
      have hhc := H17.out.2.2.1
      obtain ⟨c0, c1, c2, c3, c4, c5, c6, c7, cf0, cf1, cf2, cf3, cf4, cf5, cf6, cf7⟩ := cells8 hhc
      clear hhc
      have z0 := cell_of H17.out.2.2.2.2 0
      have z1 := cell_of H17.out.2.2.2.2 1
      replace z0 : w17n.cell? ⟨b6, 0, none⟩ = some (.int .i64 m) := z0
      replace z1 : w17n.cell? ⟨b6, 1, none⟩ = some (.int .i64 s) := z1
      go_wp2_with fail
      refine bodyPost_ret (results_cell_row rfl _ _ w.heap.size 110 _ (0, 0) _ rfl (put8 H17.out.2.2.1 _ _ _ _ _ _ _ _) Try.underlying110 rfl (by kernel_rfl)) rfl ?_
      have hat := H17.out.1
      have hkp := H17.out.2.1
      exact ⟨⟨⟨_, _, _, _, _, _, _, _, _, _⟩, rfl⟩, (a + 1), by omega, (by repeat (with_reducible first | exact hat | refine Cx.at.other ?_ hne hge _ | refine Cx.at.alloc ?_ _ | refine Cx.at.drew ?_)), (by repeat (with_reducible first | exact hkp | refine Cx.kp.other ?_ (Nat.le_refl _) _ | refine Cx.kp.alloc ?_ _ | refine Cx.kp.drew ?_))⟩
  by_cases hk3 : k = 3
  · rw [hk3] at e0
    clear hk3
    go_upto_region 12 with fail
    clear e0 e1
    obtain ⟨en18, er18, po18, hh18, -, g18, -, -, -, gf18, -, -⟩ := H4.out.1.cells
    clear hh18
    go_upto_region 13 with fail
    clear g18 gf18
    have H18 : Hid (x.at (w4.setCell ⟨x.g, 1, none⟩ (.int .i64 ((a : Int) + 1))) (a + 1) ∧ x.kp w (w4.setCell ⟨x.g, 1, none⟩ (.int .i64 ((a : Int) + 1))) ∧ (w4.setCell ⟨x.g, 1, none⟩ (.int .i64 ((a : Int) + 1))).heap[w.heap.size]? = some (.cells #[.int .i64 0, .bool false, .int .i64 0, .int .i64 0, .string ⟨#[]⟩, .bool false, .bool false, .slice none 0 0] 110 (0, 0)) ∧ (w4.setCell ⟨x.g, 1, none⟩ (.int .i64 ((a : Int) + 1))).heap[b5]? = some (.cells #[.int .i64 k, .string t, .int .i64 ps] 124 (0, 0))) := Lib.hid ⟨H4.out.1.set1 hx (a + 1) (by omega), H4.out.2.1.set _ _, (set_other _ _ _ _ (by exact hne)).trans H4.out.2.2.1, (set_other _ _ _ _ (by exact hb5g)).trans H4.out.2.2.2⟩
    generalize w4.setCell ⟨x.g, 1, none⟩ (.int .i64 ((a : Int) + 1)) = w18n at H18 ⊢
    have hhc := H18.out.2.2.1
    obtain ⟨c0, c1, c2, c3, c4, c5, c6, c7, cf0, cf1, cf2, cf3, cf4, cf5, cf6, cf7⟩ := cells8 hhc
    clear hhc
    have e1 := cell_of H18.out.2.2.2 1
    replace e1 : w18n.cell? ⟨b5, 1, none⟩ = some (.string t) := e1
    go_wp2_with fail
    refine bodyPost_ret (results_cell_row rfl _ _ w.heap.size 110 _ (0, 0) _ rfl (put8 H18.out.2.2.1 _ _ _ _ _ _ _ _) Try.underlying110 rfl (by kernel_rfl)) rfl ?_
    have hat := H18.out.1
    have hkp := H18.out.2.1
    exact ⟨⟨⟨_, _, _, _, _, _, _, _, _, _⟩, rfl⟩, (a + 1), by omega, (by repeat (with_reducible first | exact hat | refine Cx.at.other ?_ hne hge _ | refine Cx.at.alloc ?_ _ | refine Cx.at.drew ?_)), (by repeat (with_reducible first | exact hkp | refine Cx.kp.other ?_ (Nat.le_refl _) _ | refine Cx.kp.alloc ?_ _ | refine Cx.kp.drew ?_))⟩
  by_cases hk1 : k = 1
  · rw [hk1] at e0
    clear hk1
    go_wp2_with fail
    clear e0
    refine (word_any t w4).mono ?_
    rintro e w5 ⟨⟨z, rfl⟩, hb⟩
    have h5 := H4.out.1.below hb
    have k5 := Cx.kp.of_below (x := x) hb
    clear hb e1
    have H19 : Hid (x.at w5 a ∧ x.kp w w5 ∧ w5.heap[w.heap.size]? = some (.cells #[.int .i64 0, .bool false, .int .i64 0, .int .i64 0, .string ⟨#[]⟩, .bool false, .bool false, .slice none 0 0] 110 (0, 0)) ∧ w5.heap[b5]? = some (.cells #[.int .i64 k, .string t, .int .i64 ps] 124 (0, 0))) := Lib.hid ⟨h5, H4.out.2.1.trans k5, k5.blk H4.out.2.2.1 hne, k5.blk H4.out.2.2.2 hb5g⟩
    clear h5 k5
    cases z
    rotate_left
    · go_wp2_with fail
      refine (must_lit x hx w5 a H19.out.1 [⟨#[116, 114, 117, 101]⟩, ⟨#[102, 97, 108, 115, 101]⟩, ⟨#[110, 117, 108, 108]⟩, ⟨#[40]⟩, ⟨#[91]⟩, ⟨#[105, 102]⟩] (by decide)).mono ?_
      rintro e w6 ⟨s, a6, rfl, hs20, h20, k20⟩
      have la6 : a ≤ a6 := by rcases hs20 with ⟨h, _⟩ | h <;> omega
      have HSs := Lib.hid hs20
      clear hs20
      have H21 : Hid (x.at w6 a6 ∧ x.kp w w6 ∧ w6.heap[w.heap.size]? = some (.cells #[.int .i64 0, .bool false, .int .i64 0, .int .i64 0, .string ⟨#[]⟩, .bool false, .bool false, .slice none 0 0] 110 (0, 0)) ∧ w6.heap[b5]? = some (.cells #[.int .i64 k, .string t, .int .i64 ps] 124 (0, 0))) := Lib.hid ⟨h20, H19.out.2.1.trans k20, k20.blk H19.out.2.2.1 hne, k20.blk H19.out.2.2.2 hb5g⟩
      clear h20 k20
      by_cases hq : s.toList = [116, 114, 117, 101]
      · have hq1 : (s.toList == [116, 114, 117, 101]) = true := by simpa using hq
        have hhc := H21.out.2.2.1
        obtain ⟨c0, c1, c2, c3, c4, c5, c6, c7, cf0, cf1, cf2, cf3, cf4, cf5, cf6, cf7⟩ := cells8 hhc
        clear hhc
        go_wp2_with fail
        refine bodyPost_ret (results_cell_row rfl _ _ w.heap.size 110 _ (0, 0) _ rfl (put8 H21.out.2.2.1 _ _ _ _ _ _ _ _) Try.underlying110 rfl (by kernel_rfl)) rfl ?_
        have hat := H21.out.1
        have hkp := H21.out.2.1
        exact ⟨⟨⟨_, _, _, _, _, _, _, _, _, _⟩, rfl⟩, a6, by omega, (by repeat (with_reducible first | exact hat | refine Cx.at.other ?_ hne hge _ | refine Cx.at.alloc ?_ _ | refine Cx.at.drew ?_)), (by repeat (with_reducible first | exact hkp | refine Cx.kp.other ?_ (Nat.le_refl _) _ | refine Cx.kp.alloc ?_ _ | refine Cx.kp.drew ?_))⟩
      have hq1 : (s.toList == [116, 114, 117, 101]) = false := by simpa using hq
      clear hq
      by_cases hq : s.toList = [102, 97, 108, 115, 101]
      · have hq1 : (s.toList == [102, 97, 108, 115, 101]) = true := by simpa using hq
        have hhc := H21.out.2.2.1
        obtain ⟨c0, c1, c2, c3, c4, c5, c6, c7, cf0, cf1, cf2, cf3, cf4, cf5, cf6, cf7⟩ := cells8 hhc
        clear hhc
        go_wp2_with fail
        refine bodyPost_ret (results_cell_row rfl _ _ w.heap.size 110 _ (0, 0) _ rfl (put8 H21.out.2.2.1 _ _ _ _ _ _ _ _) Try.underlying110 rfl (by kernel_rfl)) rfl ?_
        have hat := H21.out.1
        have hkp := H21.out.2.1
        exact ⟨⟨⟨_, _, _, _, _, _, _, _, _, _⟩, rfl⟩, a6, by omega, (by repeat (with_reducible first | exact hat | refine Cx.at.other ?_ hne hge _ | refine Cx.at.alloc ?_ _ | refine Cx.at.drew ?_)), (by repeat (with_reducible first | exact hkp | refine Cx.kp.other ?_ (Nat.le_refl _) _ | refine Cx.kp.alloc ?_ _ | refine Cx.kp.drew ?_))⟩
      have hq1 : (s.toList == [102, 97, 108, 115, 101]) = false := by simpa using hq
      clear hq
      by_cases hq : s.toList = [110, 117, 108, 108]
      · have hq1 : (s.toList == [110, 117, 108, 108]) = true := by simpa using hq
        have hhc := H21.out.2.2.1
        obtain ⟨c0, c1, c2, c3, c4, c5, c6, c7, cf0, cf1, cf2, cf3, cf4, cf5, cf6, cf7⟩ := cells8 hhc
        clear hhc
        go_wp2_with fail
        refine bodyPost_ret (results_cell_row rfl _ _ w.heap.size 110 _ (0, 0) _ rfl (put8 H21.out.2.2.1 _ _ _ _ _ _ _ _) Try.underlying110 rfl (by kernel_rfl)) rfl ?_
        have hat := H21.out.1
        have hkp := H21.out.2.1
        exact ⟨⟨⟨_, _, _, _, _, _, _, _, _, _⟩, rfl⟩, a6, by omega, (by repeat (with_reducible first | exact hat | refine Cx.at.other ?_ hne hge _ | refine Cx.at.alloc ?_ _ | refine Cx.at.drew ?_)), (by repeat (with_reducible first | exact hkp | refine Cx.kp.other ?_ (Nat.le_refl _) _ | refine Cx.kp.alloc ?_ _ | refine Cx.kp.drew ?_))⟩
      have hq1 : (s.toList == [110, 117, 108, 108]) = false := by simpa using hq
      clear hq
      by_cases hq : s.toList = [40]
      · have hq1 : (s.toList == [40]) = true := by simpa using hq
        go_wp2_with fail
        refine (HE.out.use w6 a6 H21.out.1).mono ?_
        rintro e w7 ⟨⟨y, rfl⟩, a7, la7, h22, k22⟩
        have H23 : Hid (x.at w7 a7 ∧ x.kp w w7 ∧ w7.heap[w.heap.size]? = some (.cells #[.int .i64 0, .bool false, .int .i64 0, .int .i64 0, .string ⟨#[]⟩, .bool false, .bool false, .slice none 0 0] 110 (0, 0)) ∧ w7.heap[b5]? = some (.cells #[.int .i64 k, .string t, .int .i64 ps] 124 (0, 0))) := Lib.hid ⟨h22, H21.out.2.1.trans k22, k22.blk H21.out.2.2.1 hne, k22.blk H21.out.2.2.2 hb5g⟩
        clear h22 k22
        go_upto_region 28 with fail
        obtain ⟨b8, hb8⟩ : ∃ b, w7.heap.size = b := ⟨_, rfl⟩
        have hb8g : b8 ≠ x.g := by have := H23.out.1.lt; omega
        have hb8w : w.heap.size < b8 := by have := blk_in H23.out.2.2.1; omega
        have H24 : Hid (x.at (w7.alloc (.cells #[.int .i64 y.k, .bool y.b, .int .i64 y.m, .int .i64 y.s, .string y.t, .bool y.lo, .bool y.hi, .slice y.A y.n y.c] 110)) a7 ∧ x.kp w (w7.alloc (.cells #[.int .i64 y.k, .bool y.b, .int .i64 y.m, .int .i64 y.s, .string y.t, .bool y.lo, .bool y.hi, .slice y.A y.n y.c] 110)) ∧ (w7.alloc (.cells #[.int .i64 y.k, .bool y.b, .int .i64 y.m, .int .i64 y.s, .string y.t, .bool y.lo, .bool y.hi, .slice y.A y.n y.c] 110)).heap[w.heap.size]? = some (.cells #[.int .i64 0, .bool false, .int .i64 0, .int .i64 0, .string ⟨#[]⟩, .bool false, .bool false, .slice none 0 0] 110 (0, 0)) ∧ (w7.alloc (.cells #[.int .i64 y.k, .bool y.b, .int .i64 y.m, .int .i64 y.s, .string y.t, .bool y.lo, .bool y.hi, .slice y.A y.n y.c] 110)).heap[b5]? = some (.cells #[.int .i64 k, .string t, .int .i64 ps] 124 (0, 0)) ∧ (w7.alloc (.cells #[.int .i64 y.k, .bool y.b, .int .i64 y.m, .int .i64 y.s, .string y.t, .bool y.lo, .bool y.hi, .slice y.A y.n y.c] 110)).heap[b8]? = some (.cells #[.int .i64 y.k, .bool y.b, .int .i64 y.m, .int .i64 y.s, .string y.t, .bool y.lo, .bool y.hi, .slice y.A y.n y.c] 110 (0, 0))) := Lib.hid ⟨H23.out.1.alloc _, H23.out.2.1.alloc _, alloc_blk H23.out.2.2.1, alloc_blk H23.out.2.2.2, by rw [← hb8]; exact heap_alloc_new w7 _⟩
        try rw [hb8]
        generalize w7.alloc (.cells #[.int .i64 y.k, .bool y.b, .int .i64 y.m, .int .i64 y.s, .string y.t, .bool y.lo, .bool y.hi, .slice y.A y.n y.c] 110) = w24n at H24 ⊢
        clear hb8
        go_wp2_with fail
        refine (must_lit x hx w24n a7 H24.out.1 [⟨#[41]⟩] (by decide)).mono ?_
        rintro e w8 ⟨u, a8, rfl, hs25, h25, k25⟩
        have la8 : a7 ≤ a8 := by rcases hs25 with ⟨h, _⟩ | h <;> omega
        have HSu := Lib.hid hs25
        clear hs25
        have H26 : Hid (x.at w8 a8 ∧ x.kp w w8 ∧ w8.heap[w.heap.size]? = some (.cells #[.int .i64 0, .bool false, .int .i64 0, .int .i64 0, .string ⟨#[]⟩, .bool false, .bool false, .slice none 0 0] 110 (0, 0)) ∧ w8.heap[b5]? = some (.cells #[.int .i64 k, .string t, .int .i64 ps] 124 (0, 0)) ∧ w8.heap[b8]? = some (.cells #[.int .i64 y.k, .bool y.b, .int .i64 y.m, .int .i64 y.s, .string y.t, .bool y.lo, .bool y.hi, .slice y.A y.n y.c] 110 (0, 0))) := Lib.hid ⟨h25, H24.out.2.1.trans k25, k25.blk H24.out.2.2.1 hne, k25.blk H24.out.2.2.2.1 hb5g, k25.blk H24.out.2.2.2.2 hb8g⟩
        clear h25 k25
        have hhc := H26.out.2.2.1
        obtain ⟨c0, c1, c2, c3, c4, c5, c6, c7, cf0, cf1, cf2, cf3, cf4, cf5, cf6, cf7⟩ := cells8 hhc
        clear hhc
        have hhv := H26.out.2.2.2.2
        obtain ⟨v0, v1, v2, v3, v4, v5, v6, v7, vf0, vf1, vf2, vf3, vf4, vf5, vf6, vf7⟩ := cells8 hhv
        clear hhv
        go_wp2_with fail
        refine bodyPost_ret (results_cell_row rfl _ _ w.heap.size 110 _ (0, 0) _ rfl (put8 H26.out.2.2.1 _ _ _ _ _ _ _ _) Try.underlying110 rfl (by kernel_rfl)) rfl ?_
        have hat := H26.out.1
        have hkp := H26.out.2.1
        exact ⟨⟨⟨_, _, _, _, _, _, _, _, _, _⟩, rfl⟩, a8, by omega, (by repeat (with_reducible first | exact hat | refine Cx.at.other ?_ hne hge _ | refine Cx.at.alloc ?_ _ | refine Cx.at.drew ?_)), (by repeat (with_reducible first | exact hkp | refine Cx.kp.other ?_ (Nat.le_refl _) _ | refine Cx.kp.alloc ?_ _ | refine Cx.kp.drew ?_))⟩
      have hq1 : (s.toList == [40]) = false := by simpa using hq
      clear hq
      by_cases hq : s.toList = [91]
      · have hq1 : (s.toList == [91]) = true := by simpa using hq
        go_wp2_with fail
        refine (row_any x hx d hd0 hd8 HE.out _ w6 a6 H21.out.1).mono ?_
        rintro e w7 ⟨⟨A, n, c, rfl⟩, a7, la7, h7, k7⟩
        have H27 : Hid (x.at w7 a7 ∧ x.kp w w7 ∧ w7.heap[w.heap.size]? = some (.cells #[.int .i64 0, .bool false, .int .i64 0, .int .i64 0, .string ⟨#[]⟩, .bool false, .bool false, .slice none 0 0] 110 (0, 0)) ∧ w7.heap[b5]? = some (.cells #[.int .i64 k, .string t, .int .i64 ps] 124 (0, 0))) := Lib.hid ⟨h7, H21.out.2.1.trans k7, k7.blk H21.out.2.2.1 hne, k7.blk H21.out.2.2.2 hb5g⟩
        clear h7 k7
        have hhc := H27.out.2.2.1
        obtain ⟨c0, c1, c2, c3, c4, c5, c6, c7, cf0, cf1, cf2, cf3, cf4, cf5, cf6, cf7⟩ := cells8 hhc
        clear hhc
        go_wp2_with fail
        refine bodyPost_ret (results_cell_row rfl _ _ w.heap.size 110 _ (0, 0) _ rfl (put8 H27.out.2.2.1 _ _ _ _ _ _ _ _) Try.underlying110 rfl (by kernel_rfl)) rfl ?_
        have hat := H27.out.1
        have hkp := H27.out.2.1
        exact ⟨⟨⟨_, _, _, _, _, _, _, _, _, _⟩, rfl⟩, a7, by omega, (by repeat (with_reducible first | exact hat | refine Cx.at.other ?_ hne hge _ | refine Cx.at.alloc ?_ _ | refine Cx.at.drew ?_)), (by repeat (with_reducible first | exact hkp | refine Cx.kp.other ?_ (Nat.le_refl _) _ | refine Cx.kp.alloc ?_ _ | refine Cx.kp.drew ?_))⟩
      have hq1 : (s.toList == [91]) = false := by simpa using hq
      clear hq
      by_cases hq : s.toList = [105, 102]
      · have hq1 : (s.toList == [105, 102]) = true := by simpa using hq
        go_wp2_with fail
        refine (HE.out.use w6 a6 H21.out.1).mono ?_
        rintro e w7 ⟨⟨y, rfl⟩, a7, la7, h28, k28⟩
        have H29 : Hid (x.at w7 a7 ∧ x.kp w w7 ∧ w7.heap[w.heap.size]? = some (.cells #[.int .i64 0, .bool false, .int .i64 0, .int .i64 0, .string ⟨#[]⟩, .bool false, .bool false, .slice none 0 0] 110 (0, 0)) ∧ w7.heap[b5]? = some (.cells #[.int .i64 k, .string t, .int .i64 ps] 124 (0, 0))) := Lib.hid ⟨h28, H21.out.2.1.trans k28, k28.blk H21.out.2.2.1 hne, k28.blk H21.out.2.2.2 hb5g⟩
        clear h28 k28
        go_upto_region 34 with fail
        obtain ⟨b8, hb8⟩ : ∃ b, w7.heap.size = b := ⟨_, rfl⟩
        have hb8g : b8 ≠ x.g := by have := H29.out.1.lt; omega
        have hb8w : w.heap.size < b8 := by have := blk_in H29.out.2.2.1; omega
        have H30 : Hid (x.at (w7.alloc (.cells #[.int .i64 y.k, .bool y.b, .int .i64 y.m, .int .i64 y.s, .string y.t, .bool y.lo, .bool y.hi, .slice y.A y.n y.c] 110)) a7 ∧ x.kp w (w7.alloc (.cells #[.int .i64 y.k, .bool y.b, .int .i64 y.m, .int .i64 y.s, .string y.t, .bool y.lo, .bool y.hi, .slice y.A y.n y.c] 110)) ∧ (w7.alloc (.cells #[.int .i64 y.k, .bool y.b, .int .i64 y.m, .int .i64 y.s, .string y.t, .bool y.lo, .bool y.hi, .slice y.A y.n y.c] 110)).heap[w.heap.size]? = some (.cells #[.int .i64 0, .bool false, .int .i64 0, .int .i64 0, .string ⟨#[]⟩, .bool false, .bool false, .slice none 0 0] 110 (0, 0)) ∧ (w7.alloc (.cells #[.int .i64 y.k, .bool y.b, .int .i64 y.m, .int .i64 y.s, .string y.t, .bool y.lo, .bool y.hi, .slice y.A y.n y.c] 110)).heap[b5]? = some (.cells #[.int .i64 k, .string t, .int .i64 ps] 124 (0, 0)) ∧ (w7.alloc (.cells #[.int .i64 y.k, .bool y.b, .int .i64 y.m, .int .i64 y.s, .string y.t, .bool y.lo, .bool y.hi, .slice y.A y.n y.c] 110)).heap[b8]? = some (.cells #[.int .i64 y.k, .bool y.b, .int .i64 y.m, .int .i64 y.s, .string y.t, .bool y.lo, .bool y.hi, .slice y.A y.n y.c] 110 (0, 0))) := Lib.hid ⟨H29.out.1.alloc _, H29.out.2.1.alloc _, alloc_blk H29.out.2.2.1, alloc_blk H29.out.2.2.2, by rw [← hb8]; exact heap_alloc_new w7 _⟩
        try rw [hb8]
        generalize w7.alloc (.cells #[.int .i64 y.k, .bool y.b, .int .i64 y.m, .int .i64 y.s, .string y.t, .bool y.lo, .bool y.hi, .slice y.A y.n y.c] 110) = w30n at H30 ⊢
        clear hb8
        go_wp2_with fail
        refine (must_lit x hx w30n a7 H30.out.1 [⟨#[116, 104, 101, 110]⟩] (by decide)).mono ?_
        rintro e w8 ⟨u, a8, rfl, hs31, h31, k31⟩
        have la8 : a7 ≤ a8 := by rcases hs31 with ⟨h, _⟩ | h <;> omega
        have HSu := Lib.hid hs31
        clear hs31
        have H32 : Hid (x.at w8 a8 ∧ x.kp w w8 ∧ w8.heap[w.heap.size]? = some (.cells #[.int .i64 0, .bool false, .int .i64 0, .int .i64 0, .string ⟨#[]⟩, .bool false, .bool false, .slice none 0 0] 110 (0, 0)) ∧ w8.heap[b5]? = some (.cells #[.int .i64 k, .string t, .int .i64 ps] 124 (0, 0)) ∧ w8.heap[b8]? = some (.cells #[.int .i64 y.k, .bool y.b, .int .i64 y.m, .int .i64 y.s, .string y.t, .bool y.lo, .bool y.hi, .slice y.A y.n y.c] 110 (0, 0))) := Lib.hid ⟨h31, H30.out.2.1.trans k31, k31.blk H30.out.2.2.1 hne, k31.blk H30.out.2.2.2.1 hb5g, k31.blk H30.out.2.2.2.2 hb8g⟩
        clear h31 k31
        go_wp2_with fail
        refine (HE.out.use w8 a8 H32.out.1).mono ?_
        rintro e w9 ⟨⟨v, rfl⟩, a9, la9, h33, k33⟩
        have H34 : Hid (x.at w9 a9 ∧ x.kp w w9 ∧ w9.heap[w.heap.size]? = some (.cells #[.int .i64 0, .bool false, .int .i64 0, .int .i64 0, .string ⟨#[]⟩, .bool false, .bool false, .slice none 0 0] 110 (0, 0)) ∧ w9.heap[b5]? = some (.cells #[.int .i64 k, .string t, .int .i64 ps] 124 (0, 0)) ∧ w9.heap[b8]? = some (.cells #[.int .i64 y.k, .bool y.b, .int .i64 y.m, .int .i64 y.s, .string y.t, .bool y.lo, .bool y.hi, .slice y.A y.n y.c] 110 (0, 0))) := Lib.hid ⟨h33, H32.out.2.1.trans k33, k33.blk H32.out.2.2.1 hne, k33.blk H32.out.2.2.2.1 hb5g, k33.blk H32.out.2.2.2.2 hb8g⟩
        clear h33 k33
        go_upto_region 36 with fail
        obtain ⟨b9, hb9⟩ : ∃ b, w9.heap.size = b := ⟨_, rfl⟩
        have hb9g : b9 ≠ x.g := by have := H34.out.1.lt; omega
        have hb9w : w.heap.size < b9 := by have := blk_in H34.out.2.2.1; omega
        have H35 : Hid (x.at (w9.alloc (.cells #[.int .i64 v.k, .bool v.b, .int .i64 v.m, .int .i64 v.s, .string v.t, .bool v.lo, .bool v.hi, .slice v.A v.n v.c] 110)) a9 ∧ x.kp w (w9.alloc (.cells #[.int .i64 v.k, .bool v.b, .int .i64 v.m, .int .i64 v.s, .string v.t, .bool v.lo, .bool v.hi, .slice v.A v.n v.c] 110)) ∧ (w9.alloc (.cells #[.int .i64 v.k, .bool v.b, .int .i64 v.m, .int .i64 v.s, .string v.t, .bool v.lo, .bool v.hi, .slice v.A v.n v.c] 110)).heap[w.heap.size]? = some (.cells #[.int .i64 0, .bool false, .int .i64 0, .int .i64 0, .string ⟨#[]⟩, .bool false, .bool false, .slice none 0 0] 110 (0, 0)) ∧ (w9.alloc (.cells #[.int .i64 v.k, .bool v.b, .int .i64 v.m, .int .i64 v.s, .string v.t, .bool v.lo, .bool v.hi, .slice v.A v.n v.c] 110)).heap[b5]? = some (.cells #[.int .i64 k, .string t, .int .i64 ps] 124 (0, 0)) ∧ (w9.alloc (.cells #[.int .i64 v.k, .bool v.b, .int .i64 v.m, .int .i64 v.s, .string v.t, .bool v.lo, .bool v.hi, .slice v.A v.n v.c] 110)).heap[b8]? = some (.cells #[.int .i64 y.k, .bool y.b, .int .i64 y.m, .int .i64 y.s, .string y.t, .bool y.lo, .bool y.hi, .slice y.A y.n y.c] 110 (0, 0)) ∧ (w9.alloc (.cells #[.int .i64 v.k, .bool v.b, .int .i64 v.m, .int .i64 v.s, .string v.t, .bool v.lo, .bool v.hi, .slice v.A v.n v.c] 110)).heap[b9]? = some (.cells #[.int .i64 v.k, .bool v.b, .int .i64 v.m, .int .i64 v.s, .string v.t, .bool v.lo, .bool v.hi, .slice v.A v.n v.c] 110 (0, 0))) := Lib.hid ⟨H34.out.1.alloc _, H34.out.2.1.alloc _, alloc_blk H34.out.2.2.1, alloc_blk H34.out.2.2.2.1, alloc_blk H34.out.2.2.2.2, by rw [← hb9]; exact heap_alloc_new w9 _⟩
        try rw [hb9]
        generalize w9.alloc (.cells #[.int .i64 v.k, .bool v.b, .int .i64 v.m, .int .i64 v.s, .string v.t, .bool v.lo, .bool v.hi, .slice v.A v.n v.c] 110) = w35n at H35 ⊢
        clear hb9
        go_wp2_with fail
        refine (must_lit x hx w35n a9 H35.out.1 [⟨#[101, 108, 115, 101]⟩] (by decide)).mono ?_
        rintro e w10 ⟨o, a10, rfl, hs36, h36, k36⟩
        have la10 : a9 ≤ a10 := by rcases hs36 with ⟨h, _⟩ | h <;> omega
        have HSo := Lib.hid hs36
        clear hs36
        have H37 : Hid (x.at w10 a10 ∧ x.kp w w10 ∧ w10.heap[w.heap.size]? = some (.cells #[.int .i64 0, .bool false, .int .i64 0, .int .i64 0, .string ⟨#[]⟩, .bool false, .bool false, .slice none 0 0] 110 (0, 0)) ∧ w10.heap[b5]? = some (.cells #[.int .i64 k, .string t, .int .i64 ps] 124 (0, 0)) ∧ w10.heap[b8]? = some (.cells #[.int .i64 y.k, .bool y.b, .int .i64 y.m, .int .i64 y.s, .string y.t, .bool y.lo, .bool y.hi, .slice y.A y.n y.c] 110 (0, 0)) ∧ w10.heap[b9]? = some (.cells #[.int .i64 v.k, .bool v.b, .int .i64 v.m, .int .i64 v.s, .string v.t, .bool v.lo, .bool v.hi, .slice v.A v.n v.c] 110 (0, 0))) := Lib.hid ⟨h36, H35.out.2.1.trans k36, k36.blk H35.out.2.2.1 hne, k36.blk H35.out.2.2.2.1 hb5g, k36.blk H35.out.2.2.2.2.1 hb8g, k36.blk H35.out.2.2.2.2.2 hb9g⟩
        clear h36 k36
        go_wp2_with fail
        have hxd : w10.drew.heap[b8]? = _ := H37.out.2.2.2.2.1
        have hxe : w10.drew.heap[b9]? = _ := H37.out.2.2.2.2.2
        refine start_ (n := 9) (S := fun w' => w'.cell? ⟨b8, 0, none⟩ = some (.int .i64 y.k) ∧ w'.cell? ⟨b8, 1, none⟩ = some (.bool y.b) ∧ w'.cell? ⟨b8, 2, none⟩ = some (.int .i64 y.m) ∧ w'.cell? ⟨b8, 3, none⟩ = some (.int .i64 y.s) ∧ w'.cell? ⟨b8, 4, none⟩ = some (.string y.t) ∧ w'.cell? ⟨b8, 5, none⟩ = some (.bool y.lo) ∧ w'.cell? ⟨b8, 6, none⟩ = some (.bool y.hi) ∧ w'.cell? ⟨b8, 7, none⟩ = some (.slice y.A y.n y.c) ∧ w'.cell? ⟨b9, 0, none⟩ = some (.int .i64 v.k) ∧ w'.cell? ⟨b9, 1, none⟩ = some (.bool v.b) ∧ w'.cell? ⟨b9, 2, none⟩ = some (.int .i64 v.m) ∧ w'.cell? ⟨b9, 3, none⟩ = some (.int .i64 v.s) ∧ w'.cell? ⟨b9, 4, none⟩ = some (.string v.t) ∧ w'.cell? ⟨b9, 5, none⟩ = some (.bool v.lo) ∧ w'.cell? ⟨b9, 6, none⟩ = some (.bool v.hi) ∧ w'.cell? ⟨b9, 7, none⟩ = some (.slice v.A v.n v.c)) (ds := [8]) #[false, false, false, false, false, false, false, false, false] (by kernel_rfl) rfl rfl ⟨(cell_of hxd 0), (cell_of hxd 1), (cell_of hxd 2), (cell_of hxd 3), (cell_of hxd 4), (cell_of hxd 5), (cell_of hxd 6), (cell_of hxd 7), (cell_of hxe 0), (cell_of hxe 1), (cell_of hxe 2), (cell_of hxe 3), (cell_of hxe 4), (cell_of hxe 5), (cell_of hxe 6), (cell_of hxe 7)⟩ (fun hHeld => ?_)
        refine pure_ (i := 2) (N := some 155) (v := ?_) (a' := ?_) #[false, false, true, false, false, false, false, false, false] rfl rfl (by kernel_rfl) (fun _ _ _ h => h) (Or.inl ⟨by rfl, ?_⟩) ?_ ?_
        rotate_left
        · intro w'
          go_simp
          with_reducible rfl
        rotate_left
        · simp only [Act.put, List.setIfInBounds_toArray, List.set_cons_zero, List.set_cons_succ, i64_w, i32_w]
          rfl
        refine pure_ (i := 3) (N := some 156) (v := ?_) (a' := ?_) #[false, false, true, true, false, false, false, false, false] rfl rfl (by kernel_rfl) (fun _ _ _ h => h) (Or.inl ⟨by rfl, ?_⟩) ?_ ?_
        rotate_left
        · intro w'
          go_simp
          with_reducible rfl
        rotate_left
        · simp only [Act.put, List.setIfInBounds_toArray, List.set_cons_zero, List.set_cons_succ, i64_w, i32_w]
          rfl
        refine pure_ (i := 4) (N := some 157) (v := ?_) (a' := ?_) #[false, false, true, true, true, false, false, false, false] rfl rfl (by kernel_rfl) (fun _ _ _ h => h) (Or.inl ⟨by rfl, ?_⟩) ?_ ?_
        rotate_left
        · intro w'
          go_simp
          with_reducible rfl
        rotate_left
        · simp only [Act.put, List.setIfInBounds_toArray, List.set_cons_zero, List.set_cons_succ, i64_w, i32_w]
          rfl
        refine take_ (i := 0) (N := some 153) (v := ?_) (a' := ?_) #[true, false, true, true, true, false, false, false, false] rfl rfl (by kernel_rfl) (fun _ _ _ h => h) (Or.inl ⟨by rfl, ?_⟩) hHeld ?_ ?_
        rotate_left
        · rintro w' ⟨s0, s1, s2, s3, s4, s5, s6, s7, s8, s9, s10, s11, s12, s13, s14, s15⟩
          go_simp
          with_reducible rfl
        rotate_left
        · simp only [Act.put, List.setIfInBounds_toArray, List.set_cons_zero, List.set_cons_succ, i64_w, i32_w]
          rfl
        refine take_ (i := 1) (N := some 154) (v := ?_) (a' := ?_) #[true, true, true, true, true, false, false, false, false] rfl rfl (by kernel_rfl) (fun _ _ _ h => h) (Or.inl ⟨by rfl, ?_⟩) hHeld ?_ ?_
        rotate_left
        · rintro w' ⟨s0, s1, s2, s3, s4, s5, s6, s7, s8, s9, s10, s11, s12, s13, s14, s15⟩
          go_simp
          with_reducible rfl
        rotate_left
        · simp only [Act.put, List.setIfInBounds_toArray, List.set_cons_zero, List.set_cons_succ, i64_w, i32_w]
          rfl
        refine one_ (i := 5) (N := some 158) #[true, true, true, true, true, true, false, false, false] rfl rfl (by kernel_rfl) (by decide) (fun K hK => ?_)
        refine goes_ Try.func70 (by kernel_rfl) rfl #[.pointer (some ⟨x.g, 0, none⟩), .int .i64 (wrap64 (d + 1))] (by rfl) rfl rfl (by simp only [List.map_toArray, List.map_cons, List.map_nil]; rfl) ?_
        with_reducible refine (HW.out w10.drew a10 H37.out.1.drew).mono ?_
        rintro e w11 ⟨⟨q, rfl⟩, a11, la11, h11, k11⟩
        refine ⟨_, rfl, ?_⟩
        have HI : Hid (x.at w11 a11 ∧ x.kp w w11 ∧ w11.heap[w.heap.size]? = some (.cells #[.int .i64 0, .bool false, .int .i64 0, .int .i64 0, .string ⟨#[]⟩, .bool false, .bool false, .slice none 0 0] 110 (0, 0)) ∧ w11.heap[b5]? = some (.cells #[.int .i64 k, .string t, .int .i64 ps] 124 (0, 0)) ∧ w11.heap[b8]? = some (.cells #[.int .i64 y.k, .bool y.b, .int .i64 y.m, .int .i64 y.s, .string y.t, .bool y.lo, .bool y.hi, .slice y.A y.n y.c] 110 (0, 0)) ∧ w11.heap[b9]? = some (.cells #[.int .i64 v.k, .bool v.b, .int .i64 v.m, .int .i64 v.s, .string v.t, .bool v.lo, .bool v.hi, .slice v.A v.n v.c] 110 (0, 0))) := Lib.hid ⟨h11, H37.out.2.1.drew.trans k11, k11.blk (w := w10.drew) H37.out.2.2.1 hne, k11.blk (w := w10.drew) H37.out.2.2.2.1 hb5g, k11.blk (w := w10.drew) H37.out.2.2.2.2.1 hb8g, k11.blk (w := w10.drew) H37.out.2.2.2.2.2 hb9g⟩
        clear h11 k11
        obtain ⟨i0, i1, i2, i3, i4, i5, i6, i7, if0, if1, if2, if3, if4, if5, if6, if7⟩ := cells8 HI.out.2.2.2.2.1
        obtain ⟨j0, j1, j2, j3, j4, j5, j6, j7, jf0, jf1, jf2, jf3, jf4, jf5, jf6, jf7⟩ := cells8 HI.out.2.2.2.2.2
        obtain ⟨m0, m1, m2, m3, m4, m5, m6, m7, mf0, mf1, mf2, mf3, mf4, mf5, mf6, mf7⟩ := cells8a HI.out.2.2.2.2.1
        obtain ⟨r0, r1, r2, r3, r4, r5, r6, r7, rf0, rf1, rf2, rf3, rf4, rf5, rf6, rf7⟩ := cells8a HI.out.2.2.2.2.2
        obtain ⟨c0, c1, c2, c3, c4, c5, c6, c7, cf0, cf1, cf2, cf3, cf4, cf5, cf6, cf7⟩ := cells8a HI.out.2.2.1
        refine hK.out _ _ ⟨i0, i1, i2, i3, i4, i5, i6, i7, j0, j1, j2, j3, j4, j5, j6, j7⟩ (fun hHeld => ?_)
        clear hK K
        refine norm_ (a' := ?_) ?_ ?_
        rotate_left
        · show Act.put _ (some 158) _ = _
          simp only [Act.put, List.setIfInBounds_toArray, List.set_cons_zero, List.set_cons_succ, i64_w, i32_w]
          rfl
        refine one_ (i := 6) (N := some 159) #[true, true, true, true, true, true, true, false, false] rfl rfl (by kernel_rfl) (by decide) (fun K hK => ?_)
        refine value_ (w1 := ?_) (v := ?_) (by rfl) rfl ?_ ?_
        rotate_left 2
        · go_simp
          constructor
          · rfl
          · rfl
        refine hK.out _ _ ⟨(m0 _), (m1 _), (m2 _), (m3 _), (m4 _), (m5 _), (m6 _), (m7 _), (r0 _), (r1 _), (r2 _), (r3 _), (r4 _), (r5 _), (r6 _), (r7 _)⟩ (fun hHeld => ?_)
        clear hK K
        refine norm_ (a' := ?_) ?_ ?_
        rotate_left
        · show Act.put _ (some 159) _ = _
          simp only [Act.put, List.setIfInBounds_toArray, List.set_cons_zero, List.set_cons_succ, i64_w, i32_w]
          rfl
        refine pure_ (i := 7) (N := some 160) (v := ?_) (a' := ?_) #[true, true, true, true, true, true, true, true, false] rfl rfl (by kernel_rfl) (fun _ _ _ h => h) (Or.inl ⟨by rfl, ?_⟩) ?_ ?_
        rotate_left
        · intro w'
          go_simp
          with_reducible rfl
        rotate_left
        · simp only [Act.put, List.setIfInBounds_toArray, List.set_cons_zero, List.set_cons_succ, i64_w, i32_w]
          rfl
        refine last_ (i := 8) (N := none) #[true, true, true, true, true, true, true, true, true] rfl rfl (by kernel_rfl) (by decide) (fun K hK => ?_)
        refine skip_ (w1 := ?_) (by rfl) rfl ?_ ?_
        rotate_left
        · go_simp
          rfl
        refine hK.out _ _ ?_
        clear hK K
        refine done_ (by kernel_rfl) ?_

        go_wp2_with fail
        refine bodyPost_ret (results_cell_row rfl _ _ w.heap.size 110 _ (0, 0) _ rfl (put8 (alloc_blk HI.out.2.2.1) _ _ _ _ _ _ _ _) Try.underlying110 rfl (by kernel_rfl)) rfl ?_
        have hat := HI.out.1
        have hkp := HI.out.2.1
        exact ⟨⟨⟨_, _, _, _, _, _, _, _, _, _⟩, rfl⟩, a11, by omega, (by repeat (with_reducible first | exact hat | refine Cx.at.other ?_ hne hge _ | refine Cx.at.alloc ?_ _ | refine Cx.at.drew ?_)), (by repeat (with_reducible first | exact hkp | refine Cx.kp.other ?_ (Nat.le_refl _) _ | refine Cx.kp.alloc ?_ _ | refine Cx.kp.drew ?_))⟩
      have hq1 : (s.toList == [105, 102]) = false := by simpa using hq
      clear hq
      have hhc := H21.out.2.2.1
      obtain ⟨c0, c1, c2, c3, c4, c5, c6, c7, cf0, cf1, cf2, cf3, cf4, cf5, cf6, cf7⟩ := cells8 hhc
      clear hhc
      go_wp2_with fail
      refine bodyPost_ret (results_cell_row rfl _ _ w.heap.size 110 _ (0, 0) _ rfl (put8 H21.out.2.2.1 _ _ _ _ _ _ _ _) Try.underlying110 rfl (by kernel_rfl)) rfl ?_
      have hat := H21.out.1
      have hkp := H21.out.2.1
      exact ⟨⟨⟨_, _, _, _, _, _, _, _, _, _⟩, rfl⟩, a6, by omega, (by repeat (with_reducible first | exact hat | refine Cx.at.other ?_ hne hge _ | refine Cx.at.alloc ?_ _ | refine Cx.at.drew ?_)), (by repeat (with_reducible first | exact hkp | refine Cx.kp.other ?_ (Nat.le_refl _) _ | refine Cx.kp.alloc ?_ _ | refine Cx.kp.drew ?_))⟩
    go_upto_region 15 with fail
    obtain ⟨en38, er38, po38, hh38, -, g38, -, -, -, gf38, -, -⟩ := H19.out.1.cells
    clear hh38
    go_upto_region 16 with fail
    clear g38 gf38
    have H38 : Hid (x.at (w5.setCell ⟨x.g, 1, none⟩ (.int .i64 ((a : Int) + 1))) (a + 1) ∧ x.kp w (w5.setCell ⟨x.g, 1, none⟩ (.int .i64 ((a : Int) + 1))) ∧ (w5.setCell ⟨x.g, 1, none⟩ (.int .i64 ((a : Int) + 1))).heap[w.heap.size]? = some (.cells #[.int .i64 0, .bool false, .int .i64 0, .int .i64 0, .string ⟨#[]⟩, .bool false, .bool false, .slice none 0 0] 110 (0, 0)) ∧ (w5.setCell ⟨x.g, 1, none⟩ (.int .i64 ((a : Int) + 1))).heap[b5]? = some (.cells #[.int .i64 k, .string t, .int .i64 ps] 124 (0, 0))) := Lib.hid ⟨H19.out.1.set1 hx (a + 1) (by omega), H19.out.2.1.set _ _, (set_other _ _ _ _ (by exact hne)).trans H19.out.2.2.1, (set_other _ _ _ _ (by exact hb5g)).trans H19.out.2.2.2⟩
    generalize w5.setCell ⟨x.g, 1, none⟩ (.int .i64 ((a : Int) + 1)) = w38n at H38 ⊢
    go_wp2_with fail
    refine (take_lit x hx w38n (a + 1) H38.out.1 [⟨#[40]⟩] (by decide)).mono ?_
    rintro e w7 ⟨s, a7, rfl, hs39, h39, k39⟩
    have la7 : (a + 1) ≤ a7 := by rcases hs39 with ⟨h, _⟩ | h <;> omega
    have HSs := Lib.hid hs39
    clear hs39
    have H40 : Hid (x.at w7 a7 ∧ x.kp w w7 ∧ w7.heap[w.heap.size]? = some (.cells #[.int .i64 0, .bool false, .int .i64 0, .int .i64 0, .string ⟨#[]⟩, .bool false, .bool false, .slice none 0 0] 110 (0, 0)) ∧ w7.heap[b5]? = some (.cells #[.int .i64 k, .string t, .int .i64 ps] 124 (0, 0))) := Lib.hid ⟨h39, H38.out.2.1.trans k39, k39.blk H38.out.2.2.1 hne, k39.blk H38.out.2.2.2 hb5g⟩
    clear h39 k39
    by_cases hes : s.toList = []
    · skip
      have hhc := H40.out.2.2.1
      obtain ⟨c0, c1, c2, c3, c4, c5, c6, c7, cf0, cf1, cf2, cf3, cf4, cf5, cf6, cf7⟩ := cells8 hhc
      clear hhc
      have e1 := cell_of H40.out.2.2.2 1
      replace e1 : w7.cell? ⟨b5, 1, none⟩ = some (.string t) := e1
      go_wp2_with fail
      refine bodyPost_ret (results_cell_row rfl _ _ w.heap.size 110 _ (0, 0) _ rfl (put8 H40.out.2.2.1 _ _ _ _ _ _ _ _) Try.underlying110 rfl (by kernel_rfl)) rfl ?_
      have hat := H40.out.1
      have hkp := H40.out.2.1
      exact ⟨⟨⟨_, _, _, _, _, _, _, _, _, _⟩, rfl⟩, a7, by omega, (by repeat (with_reducible first | exact hat | refine Cx.at.other ?_ hne hge _ | refine Cx.at.alloc ?_ _ | refine Cx.at.drew ?_)), (by repeat (with_reducible first | exact hkp | refine Cx.kp.other ?_ (Nat.le_refl _) _ | refine Cx.kp.alloc ?_ _ | refine Cx.kp.drew ?_))⟩
    · skip
      have hfs : (s.toList == []) = false := by simpa using hes
      have hgs : (s.toList != []) = true := by simpa using hes
      clear hes
      go_wp2_with fail
      have hxd : w7.drew.heap[b5]? = _ := H40.out.2.2.2
      refine start_ (n := 7) (S := fun w' => w'.cell? ⟨b5, 1, none⟩ = some (.string t)) (ds := [6]) #[false, false, false, false, false, false, false] (by kernel_rfl) rfl rfl ((cell_of hxd 1)) (fun hHeld => ?_)
      refine pure_ (i := 0) (N := some 100) (v := ?_) (a' := ?_) #[true, false, false, false, false, false, false] rfl rfl (by kernel_rfl) (fun _ _ _ h => h) (Or.inl ⟨by rfl, ?_⟩) ?_ ?_
      rotate_left
      · intro w'
        go_simp
        with_reducible rfl
      rotate_left
      · simp only [Act.put, List.setIfInBounds_toArray, List.set_cons_zero, List.set_cons_succ, i64_w, i32_w]
        rfl
      refine pure_ (i := 2) (N := some 102) (v := ?_) (a' := ?_) #[true, false, true, false, false, false, false] rfl rfl (by kernel_rfl) (fun _ _ _ h => h) (Or.inl ⟨by rfl, ?_⟩) ?_ ?_
      rotate_left
      · intro w'
        go_simp
        with_reducible rfl
      rotate_left
      · simp only [Act.put, List.setIfInBounds_toArray, List.set_cons_zero, List.set_cons_succ, i64_w, i32_w]
        rfl
      refine pure_ (i := 3) (N := some 103) (v := ?_) (a' := ?_) #[true, false, true, true, false, false, false] rfl rfl (by kernel_rfl) (fun _ _ _ h => h) (Or.inl ⟨by rfl, ?_⟩) ?_ ?_
      rotate_left
      · intro w'
        go_simp
        with_reducible rfl
      rotate_left
      · simp only [Act.put, List.setIfInBounds_toArray, List.set_cons_zero, List.set_cons_succ, i64_w, i32_w]
        rfl
      refine take_ (i := 1) (N := some 101) (v := ?_) (a' := ?_) #[true, true, true, true, false, false, false] rfl rfl (by kernel_rfl) (fun _ _ _ h => h) (Or.inl ⟨by rfl, ?_⟩) hHeld ?_ ?_
      rotate_left
      · intro w' s0
        go_simp
        with_reducible rfl
      rotate_left
      · simp only [Act.put, List.setIfInBounds_toArray, List.set_cons_zero, List.set_cons_succ, i64_w, i32_w]
        rfl
      refine one_ (i := 4) (N := some 104) #[true, true, true, true, true, false, false] rfl rfl (by kernel_rfl) (by decide) (fun K hK => ?_)
      refine goes_ Try.func98 (by kernel_rfl) rfl #[.pointer (some ⟨x.g, 0, none⟩), .int .i64 d, .string ⟨#[41]⟩] (by rfl) rfl rfl (by simp only [List.map_toArray, List.map_cons, List.map_nil]; rfl) ?_
      with_reducible refine (row_any x hx d hd0 hd8 HE.out ⟨#[41]⟩ w7.drew a7 H40.out.1.drew).mono ?_
      rintro e w8 ⟨⟨A, n, c, rfl⟩, a8, la8, h8, k8⟩
      refine ⟨_, rfl, ?_⟩
      have HR : Hid (x.at w8 a8 ∧ x.kp w w8 ∧ w8.heap[w.heap.size]? = some (.cells #[.int .i64 0, .bool false, .int .i64 0, .int .i64 0, .string ⟨#[]⟩, .bool false, .bool false, .slice none 0 0] 110 (0, 0)) ∧ w8.heap[b5]? = some (.cells #[.int .i64 k, .string t, .int .i64 ps] 124 (0, 0))) := Lib.hid ⟨h8, H40.out.2.1.drew.trans k8, k8.blk (w := w7.drew) H40.out.2.2.1 hne, k8.blk (w := w7.drew) H40.out.2.2.2 hb5g⟩
      clear h8 k8
      have i1 := cell_of HR.out.2.2.2 1
      obtain ⟨c0, c1, c2, c3, c4, c5, c6, c7, cf0, cf1, cf2, cf3, cf4, cf5, cf6, cf7⟩ := cells8 HR.out.2.2.1
      refine hK.out _ _ (i1) (fun hHeld => ?_)
      clear hK K
      refine norm_ (a' := ?_) ?_ ?_
      rotate_left
      · show Act.put _ (some 104) _ = _
        simp only [Act.put, List.setIfInBounds_toArray, List.set_cons_zero, List.set_cons_succ, i64_w, i32_w]
        rfl
      refine pure_ (i := 5) (N := some 105) (v := ?_) (a' := ?_) #[true, true, true, true, true, true, false] rfl rfl (by kernel_rfl) (fun _ _ _ h => h) (Or.inl ⟨by rfl, ?_⟩) ?_ ?_
      rotate_left
      · intro w'
        go_simp
        with_reducible rfl
      rotate_left
      · simp only [Act.put, List.setIfInBounds_toArray, List.set_cons_zero, List.set_cons_succ, i64_w, i32_w]
        rfl
      refine last_ (i := 6) (N := none) #[true, true, true, true, true, true, true] rfl rfl (by kernel_rfl) (by decide) (fun K hK => ?_)
      refine skip_ (w1 := ?_) (by rfl) rfl ?_ ?_
      rotate_left
      · go_simp
        rfl
      refine hK.out _ _ ?_
      clear hK K
      refine done_ (by kernel_rfl) ?_

      go_wp2_with fail
      refine bodyPost_ret (results_cell_row rfl _ _ w.heap.size 110 _ (0, 0) _ rfl (put8 HR.out.2.2.1 _ _ _ _ _ _ _ _) Try.underlying110 rfl (by kernel_rfl)) rfl ?_
      have hat := HR.out.1
      have hkp := HR.out.2.1
      exact ⟨⟨⟨_, _, _, _, _, _, _, _, _, _⟩, rfl⟩, a8, by omega, (by repeat (with_reducible first | exact hat | refine Cx.at.other ?_ hne hge _ | refine Cx.at.alloc ?_ _ | refine Cx.at.drew ?_)), (by repeat (with_reducible first | exact hkp | refine Cx.kp.other ?_ (Nat.le_refl _) _ | refine Cx.kp.alloc ?_ _ | refine Cx.kp.drew ?_))⟩
  go_wp2_with fail
  clear e0 e1
  refine (must_lit x hx w4 a H4.out.1 [⟨#[116, 114, 117, 101]⟩, ⟨#[102, 97, 108, 115, 101]⟩, ⟨#[110, 117, 108, 108]⟩, ⟨#[40]⟩, ⟨#[91]⟩, ⟨#[105, 102]⟩] (by decide)).mono ?_
  rintro e w6 ⟨s, a6, rfl, hs41, h41, k41⟩
  have la6 : a ≤ a6 := by rcases hs41 with ⟨h, _⟩ | h <;> omega
  have HSs := Lib.hid hs41
  clear hs41
  have H42 : Hid (x.at w6 a6 ∧ x.kp w w6 ∧ w6.heap[w.heap.size]? = some (.cells #[.int .i64 0, .bool false, .int .i64 0, .int .i64 0, .string ⟨#[]⟩, .bool false, .bool false, .slice none 0 0] 110 (0, 0)) ∧ w6.heap[b5]? = some (.cells #[.int .i64 k, .string t, .int .i64 ps] 124 (0, 0))) := Lib.hid ⟨h41, H4.out.2.1.trans k41, k41.blk H4.out.2.2.1 hne, k41.blk H4.out.2.2.2 hb5g⟩
  clear h41 k41
  by_cases hq : s.toList = [116, 114, 117, 101]
  · have hq1 : (s.toList == [116, 114, 117, 101]) = true := by simpa using hq
    have hhc := H42.out.2.2.1
    obtain ⟨c0, c1, c2, c3, c4, c5, c6, c7, cf0, cf1, cf2, cf3, cf4, cf5, cf6, cf7⟩ := cells8 hhc
    clear hhc
    go_wp2_with fail
    refine bodyPost_ret (results_cell_row rfl _ _ w.heap.size 110 _ (0, 0) _ rfl (put8 H42.out.2.2.1 _ _ _ _ _ _ _ _) Try.underlying110 rfl (by kernel_rfl)) rfl ?_
    have hat := H42.out.1
    have hkp := H42.out.2.1
    exact ⟨⟨⟨_, _, _, _, _, _, _, _, _, _⟩, rfl⟩, a6, by omega, (by repeat (with_reducible first | exact hat | refine Cx.at.other ?_ hne hge _ | refine Cx.at.alloc ?_ _ | refine Cx.at.drew ?_)), (by repeat (with_reducible first | exact hkp | refine Cx.kp.other ?_ (Nat.le_refl _) _ | refine Cx.kp.alloc ?_ _ | refine Cx.kp.drew ?_))⟩
  have hq1 : (s.toList == [116, 114, 117, 101]) = false := by simpa using hq
  clear hq
  by_cases hq : s.toList = [102, 97, 108, 115, 101]
  · have hq1 : (s.toList == [102, 97, 108, 115, 101]) = true := by simpa using hq
    have hhc := H42.out.2.2.1
    obtain ⟨c0, c1, c2, c3, c4, c5, c6, c7, cf0, cf1, cf2, cf3, cf4, cf5, cf6, cf7⟩ := cells8 hhc
    clear hhc
    go_wp2_with fail
    refine bodyPost_ret (results_cell_row rfl _ _ w.heap.size 110 _ (0, 0) _ rfl (put8 H42.out.2.2.1 _ _ _ _ _ _ _ _) Try.underlying110 rfl (by kernel_rfl)) rfl ?_
    have hat := H42.out.1
    have hkp := H42.out.2.1
    exact ⟨⟨⟨_, _, _, _, _, _, _, _, _, _⟩, rfl⟩, a6, by omega, (by repeat (with_reducible first | exact hat | refine Cx.at.other ?_ hne hge _ | refine Cx.at.alloc ?_ _ | refine Cx.at.drew ?_)), (by repeat (with_reducible first | exact hkp | refine Cx.kp.other ?_ (Nat.le_refl _) _ | refine Cx.kp.alloc ?_ _ | refine Cx.kp.drew ?_))⟩
  have hq1 : (s.toList == [102, 97, 108, 115, 101]) = false := by simpa using hq
  clear hq
  by_cases hq : s.toList = [110, 117, 108, 108]
  · have hq1 : (s.toList == [110, 117, 108, 108]) = true := by simpa using hq
    have hhc := H42.out.2.2.1
    obtain ⟨c0, c1, c2, c3, c4, c5, c6, c7, cf0, cf1, cf2, cf3, cf4, cf5, cf6, cf7⟩ := cells8 hhc
    clear hhc
    go_wp2_with fail
    refine bodyPost_ret (results_cell_row rfl _ _ w.heap.size 110 _ (0, 0) _ rfl (put8 H42.out.2.2.1 _ _ _ _ _ _ _ _) Try.underlying110 rfl (by kernel_rfl)) rfl ?_
    have hat := H42.out.1
    have hkp := H42.out.2.1
    exact ⟨⟨⟨_, _, _, _, _, _, _, _, _, _⟩, rfl⟩, a6, by omega, (by repeat (with_reducible first | exact hat | refine Cx.at.other ?_ hne hge _ | refine Cx.at.alloc ?_ _ | refine Cx.at.drew ?_)), (by repeat (with_reducible first | exact hkp | refine Cx.kp.other ?_ (Nat.le_refl _) _ | refine Cx.kp.alloc ?_ _ | refine Cx.kp.drew ?_))⟩
  have hq1 : (s.toList == [110, 117, 108, 108]) = false := by simpa using hq
  clear hq
  by_cases hq : s.toList = [40]
  · have hq1 : (s.toList == [40]) = true := by simpa using hq
    go_wp2_with fail
    refine (HE.out.use w6 a6 H42.out.1).mono ?_
    rintro e w7 ⟨⟨y, rfl⟩, a7, la7, h43, k43⟩
    have H44 : Hid (x.at w7 a7 ∧ x.kp w w7 ∧ w7.heap[w.heap.size]? = some (.cells #[.int .i64 0, .bool false, .int .i64 0, .int .i64 0, .string ⟨#[]⟩, .bool false, .bool false, .slice none 0 0] 110 (0, 0)) ∧ w7.heap[b5]? = some (.cells #[.int .i64 k, .string t, .int .i64 ps] 124 (0, 0))) := Lib.hid ⟨h43, H42.out.2.1.trans k43, k43.blk H42.out.2.2.1 hne, k43.blk H42.out.2.2.2 hb5g⟩
    clear h43 k43
    go_upto_region 28 with fail
    obtain ⟨b8, hb8⟩ : ∃ b, w7.heap.size = b := ⟨_, rfl⟩
    have hb8g : b8 ≠ x.g := by have := H44.out.1.lt; omega
    have hb8w : w.heap.size < b8 := by have := blk_in H44.out.2.2.1; omega
    have H45 : Hid (x.at (w7.alloc (.cells #[.int .i64 y.k, .bool y.b, .int .i64 y.m, .int .i64 y.s, .string y.t, .bool y.lo, .bool y.hi, .slice y.A y.n y.c] 110)) a7 ∧ x.kp w (w7.alloc (.cells #[.int .i64 y.k, .bool y.b, .int .i64 y.m, .int .i64 y.s, .string y.t, .bool y.lo, .bool y.hi, .slice y.A y.n y.c] 110)) ∧ (w7.alloc (.cells #[.int .i64 y.k, .bool y.b, .int .i64 y.m, .int .i64 y.s, .string y.t, .bool y.lo, .bool y.hi, .slice y.A y.n y.c] 110)).heap[w.heap.size]? = some (.cells #[.int .i64 0, .bool false, .int .i64 0, .int .i64 0, .string ⟨#[]⟩, .bool false, .bool false, .slice none 0 0] 110 (0, 0)) ∧ (w7.alloc (.cells #[.int .i64 y.k, .bool y.b, .int .i64 y.m, .int .i64 y.s, .string y.t, .bool y.lo, .bool y.hi, .slice y.A y.n y.c] 110)).heap[b5]? = some (.cells #[.int .i64 k, .string t, .int .i64 ps] 124 (0, 0)) ∧ (w7.alloc (.cells #[.int .i64 y.k, .bool y.b, .int .i64 y.m, .int .i64 y.s, .string y.t, .bool y.lo, .bool y.hi, .slice y.A y.n y.c] 110)).heap[b8]? = some (.cells #[.int .i64 y.k, .bool y.b, .int .i64 y.m, .int .i64 y.s, .string y.t, .bool y.lo, .bool y.hi, .slice y.A y.n y.c] 110 (0, 0))) := Lib.hid ⟨H44.out.1.alloc _, H44.out.2.1.alloc _, alloc_blk H44.out.2.2.1, alloc_blk H44.out.2.2.2, by rw [← hb8]; exact heap_alloc_new w7 _⟩
    try rw [hb8]
    generalize w7.alloc (.cells #[.int .i64 y.k, .bool y.b, .int .i64 y.m, .int .i64 y.s, .string y.t, .bool y.lo, .bool y.hi, .slice y.A y.n y.c] 110) = w45n at H45 ⊢
    clear hb8
    go_wp2_with fail
    refine (must_lit x hx w45n a7 H45.out.1 [⟨#[41]⟩] (by decide)).mono ?_
    rintro e w8 ⟨u, a8, rfl, hs46, h46, k46⟩
    have la8 : a7 ≤ a8 := by rcases hs46 with ⟨h, _⟩ | h <;> omega
    have HSu := Lib.hid hs46
    clear hs46
    have H47 : Hid (x.at w8 a8 ∧ x.kp w w8 ∧ w8.heap[w.heap.size]? = some (.cells #[.int .i64 0, .bool false, .int .i64 0, .int .i64 0, .string ⟨#[]⟩, .bool false, .bool false, .slice none 0 0] 110 (0, 0)) ∧ w8.heap[b5]? = some (.cells #[.int .i64 k, .string t, .int .i64 ps] 124 (0, 0)) ∧ w8.heap[b8]? = some (.cells #[.int .i64 y.k, .bool y.b, .int .i64 y.m, .int .i64 y.s, .string y.t, .bool y.lo, .bool y.hi, .slice y.A y.n y.c] 110 (0, 0))) := Lib.hid ⟨h46, H45.out.2.1.trans k46, k46.blk H45.out.2.2.1 hne, k46.blk H45.out.2.2.2.1 hb5g, k46.blk H45.out.2.2.2.2 hb8g⟩
    clear h46 k46
    have hhc := H47.out.2.2.1
    obtain ⟨c0, c1, c2, c3, c4, c5, c6, c7, cf0, cf1, cf2, cf3, cf4, cf5, cf6, cf7⟩ := cells8 hhc
    clear hhc
    have hhv := H47.out.2.2.2.2
    obtain ⟨v0, v1, v2, v3, v4, v5, v6, v7, vf0, vf1, vf2, vf3, vf4, vf5, vf6, vf7⟩ := cells8 hhv
    clear hhv
    go_wp2_with fail
    refine bodyPost_ret (results_cell_row rfl _ _ w.heap.size 110 _ (0, 0) _ rfl (put8 H47.out.2.2.1 _ _ _ _ _ _ _ _) Try.underlying110 rfl (by kernel_rfl)) rfl ?_
    have hat := H47.out.1
    have hkp := H47.out.2.1
    exact ⟨⟨⟨_, _, _, _, _, _, _, _, _, _⟩, rfl⟩, a8, by omega, (by repeat (with_reducible first | exact hat | refine Cx.at.other ?_ hne hge _ | refine Cx.at.alloc ?_ _ | refine Cx.at.drew ?_)), (by repeat (with_reducible first | exact hkp | refine Cx.kp.other ?_ (Nat.le_refl _) _ | refine Cx.kp.alloc ?_ _ | refine Cx.kp.drew ?_))⟩
  have hq1 : (s.toList == [40]) = false := by simpa using hq
  clear hq
  by_cases hq : s.toList = [91]
  · have hq1 : (s.toList == [91]) = true := by simpa using hq
    go_wp2_with fail
    refine (row_any x hx d hd0 hd8 HE.out _ w6 a6 H42.out.1).mono ?_
    rintro e w7 ⟨⟨A, n, c, rfl⟩, a7, la7, h7, k7⟩
    have H48 : Hid (x.at w7 a7 ∧ x.kp w w7 ∧ w7.heap[w.heap.size]? = some (.cells #[.int .i64 0, .bool false, .int .i64 0, .int .i64 0, .string ⟨#[]⟩, .bool false, .bool false, .slice none 0 0] 110 (0, 0)) ∧ w7.heap[b5]? = some (.cells #[.int .i64 k, .string t, .int .i64 ps] 124 (0, 0))) := Lib.hid ⟨h7, H42.out.2.1.trans k7, k7.blk H42.out.2.2.1 hne, k7.blk H42.out.2.2.2 hb5g⟩
    clear h7 k7
    have hhc := H48.out.2.2.1
    obtain ⟨c0, c1, c2, c3, c4, c5, c6, c7, cf0, cf1, cf2, cf3, cf4, cf5, cf6, cf7⟩ := cells8 hhc
    clear hhc
    go_wp2_with fail
    refine bodyPost_ret (results_cell_row rfl _ _ w.heap.size 110 _ (0, 0) _ rfl (put8 H48.out.2.2.1 _ _ _ _ _ _ _ _) Try.underlying110 rfl (by kernel_rfl)) rfl ?_
    have hat := H48.out.1
    have hkp := H48.out.2.1
    exact ⟨⟨⟨_, _, _, _, _, _, _, _, _, _⟩, rfl⟩, a7, by omega, (by repeat (with_reducible first | exact hat | refine Cx.at.other ?_ hne hge _ | refine Cx.at.alloc ?_ _ | refine Cx.at.drew ?_)), (by repeat (with_reducible first | exact hkp | refine Cx.kp.other ?_ (Nat.le_refl _) _ | refine Cx.kp.alloc ?_ _ | refine Cx.kp.drew ?_))⟩
  have hq1 : (s.toList == [91]) = false := by simpa using hq
  clear hq
  by_cases hq : s.toList = [105, 102]
  · have hq1 : (s.toList == [105, 102]) = true := by simpa using hq
    go_wp2_with fail
    refine (HE.out.use w6 a6 H42.out.1).mono ?_
    rintro e w7 ⟨⟨y, rfl⟩, a7, la7, h49, k49⟩
    have H50 : Hid (x.at w7 a7 ∧ x.kp w w7 ∧ w7.heap[w.heap.size]? = some (.cells #[.int .i64 0, .bool false, .int .i64 0, .int .i64 0, .string ⟨#[]⟩, .bool false, .bool false, .slice none 0 0] 110 (0, 0)) ∧ w7.heap[b5]? = some (.cells #[.int .i64 k, .string t, .int .i64 ps] 124 (0, 0))) := Lib.hid ⟨h49, H42.out.2.1.trans k49, k49.blk H42.out.2.2.1 hne, k49.blk H42.out.2.2.2 hb5g⟩
    clear h49 k49
    go_upto_region 34 with fail
    obtain ⟨b8, hb8⟩ : ∃ b, w7.heap.size = b := ⟨_, rfl⟩
    have hb8g : b8 ≠ x.g := by have := H50.out.1.lt; omega
    have hb8w : w.heap.size < b8 := by have := blk_in H50.out.2.2.1; omega
    have H51 : Hid (x.at (w7.alloc (.cells #[.int .i64 y.k, .bool y.b, .int .i64 y.m, .int .i64 y.s, .string y.t, .bool y.lo, .bool y.hi, .slice y.A y.n y.c] 110)) a7 ∧ x.kp w (w7.alloc (.cells #[.int .i64 y.k, .bool y.b, .int .i64 y.m, .int .i64 y.s, .string y.t, .bool y.lo, .bool y.hi, .slice y.A y.n y.c] 110)) ∧ (w7.alloc (.cells #[.int .i64 y.k, .bool y.b, .int .i64 y.m, .int .i64 y.s, .string y.t, .bool y.lo, .bool y.hi, .slice y.A y.n y.c] 110)).heap[w.heap.size]? = some (.cells #[.int .i64 0, .bool false, .int .i64 0, .int .i64 0, .string ⟨#[]⟩, .bool false, .bool false, .slice none 0 0] 110 (0, 0)) ∧ (w7.alloc (.cells #[.int .i64 y.k, .bool y.b, .int .i64 y.m, .int .i64 y.s, .string y.t, .bool y.lo, .bool y.hi, .slice y.A y.n y.c] 110)).heap[b5]? = some (.cells #[.int .i64 k, .string t, .int .i64 ps] 124 (0, 0)) ∧ (w7.alloc (.cells #[.int .i64 y.k, .bool y.b, .int .i64 y.m, .int .i64 y.s, .string y.t, .bool y.lo, .bool y.hi, .slice y.A y.n y.c] 110)).heap[b8]? = some (.cells #[.int .i64 y.k, .bool y.b, .int .i64 y.m, .int .i64 y.s, .string y.t, .bool y.lo, .bool y.hi, .slice y.A y.n y.c] 110 (0, 0))) := Lib.hid ⟨H50.out.1.alloc _, H50.out.2.1.alloc _, alloc_blk H50.out.2.2.1, alloc_blk H50.out.2.2.2, by rw [← hb8]; exact heap_alloc_new w7 _⟩
    try rw [hb8]
    generalize w7.alloc (.cells #[.int .i64 y.k, .bool y.b, .int .i64 y.m, .int .i64 y.s, .string y.t, .bool y.lo, .bool y.hi, .slice y.A y.n y.c] 110) = w51n at H51 ⊢
    clear hb8
    go_wp2_with fail
    refine (must_lit x hx w51n a7 H51.out.1 [⟨#[116, 104, 101, 110]⟩] (by decide)).mono ?_
    rintro e w8 ⟨u, a8, rfl, hs52, h52, k52⟩
    have la8 : a7 ≤ a8 := by rcases hs52 with ⟨h, _⟩ | h <;> omega
    have HSu := Lib.hid hs52
    clear hs52
    have H53 : Hid (x.at w8 a8 ∧ x.kp w w8 ∧ w8.heap[w.heap.size]? = some (.cells #[.int .i64 0, .bool false, .int .i64 0, .int .i64 0, .string ⟨#[]⟩, .bool false, .bool false, .slice none 0 0] 110 (0, 0)) ∧ w8.heap[b5]? = some (.cells #[.int .i64 k, .string t, .int .i64 ps] 124 (0, 0)) ∧ w8.heap[b8]? = some (.cells #[.int .i64 y.k, .bool y.b, .int .i64 y.m, .int .i64 y.s, .string y.t, .bool y.lo, .bool y.hi, .slice y.A y.n y.c] 110 (0, 0))) := Lib.hid ⟨h52, H51.out.2.1.trans k52, k52.blk H51.out.2.2.1 hne, k52.blk H51.out.2.2.2.1 hb5g, k52.blk H51.out.2.2.2.2 hb8g⟩
    clear h52 k52
    go_wp2_with fail
    refine (HE.out.use w8 a8 H53.out.1).mono ?_
    rintro e w9 ⟨⟨v, rfl⟩, a9, la9, h54, k54⟩
    have H55 : Hid (x.at w9 a9 ∧ x.kp w w9 ∧ w9.heap[w.heap.size]? = some (.cells #[.int .i64 0, .bool false, .int .i64 0, .int .i64 0, .string ⟨#[]⟩, .bool false, .bool false, .slice none 0 0] 110 (0, 0)) ∧ w9.heap[b5]? = some (.cells #[.int .i64 k, .string t, .int .i64 ps] 124 (0, 0)) ∧ w9.heap[b8]? = some (.cells #[.int .i64 y.k, .bool y.b, .int .i64 y.m, .int .i64 y.s, .string y.t, .bool y.lo, .bool y.hi, .slice y.A y.n y.c] 110 (0, 0))) := Lib.hid ⟨h54, H53.out.2.1.trans k54, k54.blk H53.out.2.2.1 hne, k54.blk H53.out.2.2.2.1 hb5g, k54.blk H53.out.2.2.2.2 hb8g⟩
    clear h54 k54
    go_upto_region 36 with fail
    obtain ⟨b9, hb9⟩ : ∃ b, w9.heap.size = b := ⟨_, rfl⟩
    have hb9g : b9 ≠ x.g := by have := H55.out.1.lt; omega
    have hb9w : w.heap.size < b9 := by have := blk_in H55.out.2.2.1; omega
    have H56 : Hid (x.at (w9.alloc (.cells #[.int .i64 v.k, .bool v.b, .int .i64 v.m, .int .i64 v.s, .string v.t, .bool v.lo, .bool v.hi, .slice v.A v.n v.c] 110)) a9 ∧ x.kp w (w9.alloc (.cells #[.int .i64 v.k, .bool v.b, .int .i64 v.m, .int .i64 v.s, .string v.t, .bool v.lo, .bool v.hi, .slice v.A v.n v.c] 110)) ∧ (w9.alloc (.cells #[.int .i64 v.k, .bool v.b, .int .i64 v.m, .int .i64 v.s, .string v.t, .bool v.lo, .bool v.hi, .slice v.A v.n v.c] 110)).heap[w.heap.size]? = some (.cells #[.int .i64 0, .bool false, .int .i64 0, .int .i64 0, .string ⟨#[]⟩, .bool false, .bool false, .slice none 0 0] 110 (0, 0)) ∧ (w9.alloc (.cells #[.int .i64 v.k, .bool v.b, .int .i64 v.m, .int .i64 v.s, .string v.t, .bool v.lo, .bool v.hi, .slice v.A v.n v.c] 110)).heap[b5]? = some (.cells #[.int .i64 k, .string t, .int .i64 ps] 124 (0, 0)) ∧ (w9.alloc (.cells #[.int .i64 v.k, .bool v.b, .int .i64 v.m, .int .i64 v.s, .string v.t, .bool v.lo, .bool v.hi, .slice v.A v.n v.c] 110)).heap[b8]? = some (.cells #[.int .i64 y.k, .bool y.b, .int .i64 y.m, .int .i64 y.s, .string y.t, .bool y.lo, .bool y.hi, .slice y.A y.n y.c] 110 (0, 0)) ∧ (w9.alloc (.cells #[.int .i64 v.k, .bool v.b, .int .i64 v.m, .int .i64 v.s, .string v.t, .bool v.lo, .bool v.hi, .slice v.A v.n v.c] 110)).heap[b9]? = some (.cells #[.int .i64 v.k, .bool v.b, .int .i64 v.m, .int .i64 v.s, .string v.t, .bool v.lo, .bool v.hi, .slice v.A v.n v.c] 110 (0, 0))) := Lib.hid ⟨H55.out.1.alloc _, H55.out.2.1.alloc _, alloc_blk H55.out.2.2.1, alloc_blk H55.out.2.2.2.1, alloc_blk H55.out.2.2.2.2, by rw [← hb9]; exact heap_alloc_new w9 _⟩
    try rw [hb9]
    generalize w9.alloc (.cells #[.int .i64 v.k, .bool v.b, .int .i64 v.m, .int .i64 v.s, .string v.t, .bool v.lo, .bool v.hi, .slice v.A v.n v.c] 110) = w56n at H56 ⊢
    clear hb9
    go_wp2_with fail
    refine (must_lit x hx w56n a9 H56.out.1 [⟨#[101, 108, 115, 101]⟩] (by decide)).mono ?_
    rintro e w10 ⟨o, a10, rfl, hs57, h57, k57⟩
    have la10 : a9 ≤ a10 := by rcases hs57 with ⟨h, _⟩ | h <;> omega
    have HSo := Lib.hid hs57
    clear hs57
    have H58 : Hid (x.at w10 a10 ∧ x.kp w w10 ∧ w10.heap[w.heap.size]? = some (.cells #[.int .i64 0, .bool false, .int .i64 0, .int .i64 0, .string ⟨#[]⟩, .bool false, .bool false, .slice none 0 0] 110 (0, 0)) ∧ w10.heap[b5]? = some (.cells #[.int .i64 k, .string t, .int .i64 ps] 124 (0, 0)) ∧ w10.heap[b8]? = some (.cells #[.int .i64 y.k, .bool y.b, .int .i64 y.m, .int .i64 y.s, .string y.t, .bool y.lo, .bool y.hi, .slice y.A y.n y.c] 110 (0, 0)) ∧ w10.heap[b9]? = some (.cells #[.int .i64 v.k, .bool v.b, .int .i64 v.m, .int .i64 v.s, .string v.t, .bool v.lo, .bool v.hi, .slice v.A v.n v.c] 110 (0, 0))) := Lib.hid ⟨h57, H56.out.2.1.trans k57, k57.blk H56.out.2.2.1 hne, k57.blk H56.out.2.2.2.1 hb5g, k57.blk H56.out.2.2.2.2.1 hb8g, k57.blk H56.out.2.2.2.2.2 hb9g⟩
    clear h57 k57
    go_wp2_with fail
    have hxd : w10.drew.heap[b8]? = _ := H58.out.2.2.2.2.1
    have hxe : w10.drew.heap[b9]? = _ := H58.out.2.2.2.2.2
    refine start_ (n := 9) (S := fun w' => w'.cell? ⟨b8, 0, none⟩ = some (.int .i64 y.k) ∧ w'.cell? ⟨b8, 1, none⟩ = some (.bool y.b) ∧ w'.cell? ⟨b8, 2, none⟩ = some (.int .i64 y.m) ∧ w'.cell? ⟨b8, 3, none⟩ = some (.int .i64 y.s) ∧ w'.cell? ⟨b8, 4, none⟩ = some (.string y.t) ∧ w'.cell? ⟨b8, 5, none⟩ = some (.bool y.lo) ∧ w'.cell? ⟨b8, 6, none⟩ = some (.bool y.hi) ∧ w'.cell? ⟨b8, 7, none⟩ = some (.slice y.A y.n y.c) ∧ w'.cell? ⟨b9, 0, none⟩ = some (.int .i64 v.k) ∧ w'.cell? ⟨b9, 1, none⟩ = some (.bool v.b) ∧ w'.cell? ⟨b9, 2, none⟩ = some (.int .i64 v.m) ∧ w'.cell? ⟨b9, 3, none⟩ = some (.int .i64 v.s) ∧ w'.cell? ⟨b9, 4, none⟩ = some (.string v.t) ∧ w'.cell? ⟨b9, 5, none⟩ = some (.bool v.lo) ∧ w'.cell? ⟨b9, 6, none⟩ = some (.bool v.hi) ∧ w'.cell? ⟨b9, 7, none⟩ = some (.slice v.A v.n v.c)) (ds := [8]) #[false, false, false, false, false, false, false, false, false] (by kernel_rfl) rfl rfl ⟨(cell_of hxd 0), (cell_of hxd 1), (cell_of hxd 2), (cell_of hxd 3), (cell_of hxd 4), (cell_of hxd 5), (cell_of hxd 6), (cell_of hxd 7), (cell_of hxe 0), (cell_of hxe 1), (cell_of hxe 2), (cell_of hxe 3), (cell_of hxe 4), (cell_of hxe 5), (cell_of hxe 6), (cell_of hxe 7)⟩ (fun hHeld => ?_)
    refine pure_ (i := 2) (N := some 155) (v := ?_) (a' := ?_) #[false, false, true, false, false, false, false, false, false] rfl rfl (by kernel_rfl) (fun _ _ _ h => h) (Or.inl ⟨by rfl, ?_⟩) ?_ ?_
    rotate_left
    · intro w'
      go_simp
      with_reducible rfl
    rotate_left
    · simp only [Act.put, List.setIfInBounds_toArray, List.set_cons_zero, List.set_cons_succ, i64_w, i32_w]
      rfl
    refine pure_ (i := 3) (N := some 156) (v := ?_) (a' := ?_) #[false, false, true, true, false, false, false, false, false] rfl rfl (by kernel_rfl) (fun _ _ _ h => h) (Or.inl ⟨by rfl, ?_⟩) ?_ ?_
    rotate_left
    · intro w'
      go_simp
      with_reducible rfl
    rotate_left
    · simp only [Act.put, List.setIfInBounds_toArray, List.set_cons_zero, List.set_cons_succ, i64_w, i32_w]
      rfl
    refine pure_ (i := 4) (N := some 157) (v := ?_) (a' := ?_) #[false, false, true, true, true, false, false, false, false] rfl rfl (by kernel_rfl) (fun _ _ _ h => h) (Or.inl ⟨by rfl, ?_⟩) ?_ ?_
    rotate_left
    · intro w'
      go_simp
      with_reducible rfl
    rotate_left
    · simp only [Act.put, List.setIfInBounds_toArray, List.set_cons_zero, List.set_cons_succ, i64_w, i32_w]
      rfl
    refine take_ (i := 0) (N := some 153) (v := ?_) (a' := ?_) #[true, false, true, true, true, false, false, false, false] rfl rfl (by kernel_rfl) (fun _ _ _ h => h) (Or.inl ⟨by rfl, ?_⟩) hHeld ?_ ?_
    rotate_left
    · rintro w' ⟨s0, s1, s2, s3, s4, s5, s6, s7, s8, s9, s10, s11, s12, s13, s14, s15⟩
      go_simp
      with_reducible rfl
    rotate_left
    · simp only [Act.put, List.setIfInBounds_toArray, List.set_cons_zero, List.set_cons_succ, i64_w, i32_w]
      rfl
    refine take_ (i := 1) (N := some 154) (v := ?_) (a' := ?_) #[true, true, true, true, true, false, false, false, false] rfl rfl (by kernel_rfl) (fun _ _ _ h => h) (Or.inl ⟨by rfl, ?_⟩) hHeld ?_ ?_
    rotate_left
    · rintro w' ⟨s0, s1, s2, s3, s4, s5, s6, s7, s8, s9, s10, s11, s12, s13, s14, s15⟩
      go_simp
      with_reducible rfl
    rotate_left
    · simp only [Act.put, List.setIfInBounds_toArray, List.set_cons_zero, List.set_cons_succ, i64_w, i32_w]
      rfl
    refine one_ (i := 5) (N := some 158) #[true, true, true, true, true, true, false, false, false] rfl rfl (by kernel_rfl) (by decide) (fun K hK => ?_)
    refine goes_ Try.func70 (by kernel_rfl) rfl #[.pointer (some ⟨x.g, 0, none⟩), .int .i64 (wrap64 (d + 1))] (by rfl) rfl rfl (by simp only [List.map_toArray, List.map_cons, List.map_nil]; rfl) ?_
    with_reducible refine (HW.out w10.drew a10 H58.out.1.drew).mono ?_
    rintro e w11 ⟨⟨q, rfl⟩, a11, la11, h11, k11⟩
    refine ⟨_, rfl, ?_⟩
    have HI : Hid (x.at w11 a11 ∧ x.kp w w11 ∧ w11.heap[w.heap.size]? = some (.cells #[.int .i64 0, .bool false, .int .i64 0, .int .i64 0, .string ⟨#[]⟩, .bool false, .bool false, .slice none 0 0] 110 (0, 0)) ∧ w11.heap[b5]? = some (.cells #[.int .i64 k, .string t, .int .i64 ps] 124 (0, 0)) ∧ w11.heap[b8]? = some (.cells #[.int .i64 y.k, .bool y.b, .int .i64 y.m, .int .i64 y.s, .string y.t, .bool y.lo, .bool y.hi, .slice y.A y.n y.c] 110 (0, 0)) ∧ w11.heap[b9]? = some (.cells #[.int .i64 v.k, .bool v.b, .int .i64 v.m, .int .i64 v.s, .string v.t, .bool v.lo, .bool v.hi, .slice v.A v.n v.c] 110 (0, 0))) := Lib.hid ⟨h11, H58.out.2.1.drew.trans k11, k11.blk (w := w10.drew) H58.out.2.2.1 hne, k11.blk (w := w10.drew) H58.out.2.2.2.1 hb5g, k11.blk (w := w10.drew) H58.out.2.2.2.2.1 hb8g, k11.blk (w := w10.drew) H58.out.2.2.2.2.2 hb9g⟩
    clear h11 k11
    obtain ⟨i0, i1, i2, i3, i4, i5, i6, i7, if0, if1, if2, if3, if4, if5, if6, if7⟩ := cells8 HI.out.2.2.2.2.1
    obtain ⟨j0, j1, j2, j3, j4, j5, j6, j7, jf0, jf1, jf2, jf3, jf4, jf5, jf6, jf7⟩ := cells8 HI.out.2.2.2.2.2
    obtain ⟨m0, m1, m2, m3, m4, m5, m6, m7, mf0, mf1, mf2, mf3, mf4, mf5, mf6, mf7⟩ := cells8a HI.out.2.2.2.2.1
    obtain ⟨r0, r1, r2, r3, r4, r5, r6, r7, rf0, rf1, rf2, rf3, rf4, rf5, rf6, rf7⟩ := cells8a HI.out.2.2.2.2.2
    obtain ⟨c0, c1, c2, c3, c4, c5, c6, c7, cf0, cf1, cf2, cf3, cf4, cf5, cf6, cf7⟩ := cells8a HI.out.2.2.1
    refine hK.out _ _ ⟨i0, i1, i2, i3, i4, i5, i6, i7, j0, j1, j2, j3, j4, j5, j6, j7⟩ (fun hHeld => ?_)
    clear hK K
    refine norm_ (a' := ?_) ?_ ?_
    rotate_left
    · show Act.put _ (some 158) _ = _
      simp only [Act.put, List.setIfInBounds_toArray, List.set_cons_zero, List.set_cons_succ, i64_w, i32_w]
      rfl
    refine one_ (i := 6) (N := some 159) #[true, true, true, true, true, true, true, false, false] rfl rfl (by kernel_rfl) (by decide) (fun K hK => ?_)
    refine value_ (w1 := ?_) (v := ?_) (by rfl) rfl ?_ ?_
    rotate_left 2
    · go_simp
      constructor
      · rfl
      · rfl
    refine hK.out _ _ ⟨(m0 _), (m1 _), (m2 _), (m3 _), (m4 _), (m5 _), (m6 _), (m7 _), (r0 _), (r1 _), (r2 _), (r3 _), (r4 _), (r5 _), (r6 _), (r7 _)⟩ (fun hHeld => ?_)
    clear hK K
    refine norm_ (a' := ?_) ?_ ?_
    rotate_left
    · show Act.put _ (some 159) _ = _
      simp only [Act.put, List.setIfInBounds_toArray, List.set_cons_zero, List.set_cons_succ, i64_w, i32_w]
      rfl
    refine pure_ (i := 7) (N := some 160) (v := ?_) (a' := ?_) #[true, true, true, true, true, true, true, true, false] rfl rfl (by kernel_rfl) (fun _ _ _ h => h) (Or.inl ⟨by rfl, ?_⟩) ?_ ?_
    rotate_left
    · intro w'
      go_simp
      with_reducible rfl
    rotate_left
    · simp only [Act.put, List.setIfInBounds_toArray, List.set_cons_zero, List.set_cons_succ, i64_w, i32_w]
      rfl
    refine last_ (i := 8) (N := none) #[true, true, true, true, true, true, true, true, true] rfl rfl (by kernel_rfl) (by decide) (fun K hK => ?_)
    refine skip_ (w1 := ?_) (by rfl) rfl ?_ ?_
    rotate_left
    · go_simp
      rfl
    refine hK.out _ _ ?_
    clear hK K
    refine done_ (by kernel_rfl) ?_

    go_wp2_with fail
    refine bodyPost_ret (results_cell_row rfl _ _ w.heap.size 110 _ (0, 0) _ rfl (put8 (alloc_blk HI.out.2.2.1) _ _ _ _ _ _ _ _) Try.underlying110 rfl (by kernel_rfl)) rfl ?_
    have hat := HI.out.1
    have hkp := HI.out.2.1
    exact ⟨⟨⟨_, _, _, _, _, _, _, _, _, _⟩, rfl⟩, a11, by omega, (by repeat (with_reducible first | exact hat | refine Cx.at.other ?_ hne hge _ | refine Cx.at.alloc ?_ _ | refine Cx.at.drew ?_)), (by repeat (with_reducible first | exact hkp | refine Cx.kp.other ?_ (Nat.le_refl _) _ | refine Cx.kp.alloc ?_ _ | refine Cx.kp.drew ?_))⟩
  have hq1 : (s.toList == [105, 102]) = false := by simpa using hq
  clear hq
  have hhc := H42.out.2.2.1
  obtain ⟨c0, c1, c2, c3, c4, c5, c6, c7, cf0, cf1, cf2, cf3, cf4, cf5, cf6, cf7⟩ := cells8 hhc
  clear hhc
  go_wp2_with fail
  refine bodyPost_ret (results_cell_row rfl _ _ w.heap.size 110 _ (0, 0) _ rfl (put8 H42.out.2.2.1 _ _ _ _ _ _ _ _) Try.underlying110 rfl (by kernel_rfl)) rfl ?_
  have hat := H42.out.1
  have hkp := H42.out.2.1
  exact ⟨⟨⟨_, _, _, _, _, _, _, _, _, _⟩, rfl⟩, a6, by omega, (by repeat (with_reducible first | exact hat | refine Cx.at.other ?_ hne hge _ | refine Cx.at.alloc ?_ _ | refine Cx.at.drew ?_)), (by repeat (with_reducible first | exact hkp | refine Cx.kp.other ?_ (Nat.le_refl _) _ | refine Cx.kp.alloc ?_ _ | refine Cx.kp.drew ?_))⟩
end Go.Proofs.Ytaddhackggbdkaa
