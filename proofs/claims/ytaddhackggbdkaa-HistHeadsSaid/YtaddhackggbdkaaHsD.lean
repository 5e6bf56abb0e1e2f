/- The parser's functions, walked over contracts of one another. Conditions stand in each part's own head. -/
import Derived.Test.YtaddhackggbdkaaHsC
import Derived.Test.YtaddhackggbdkaaWLast
/-! The parser's functions that call each other, each walked over contracts of the others; condition: the reader stands on tokens that lie in an elder world. -/
namespace Go.Proofs.Ytaddhackggbdkaa
open Go.RowKit Go.Proofs.YtaddhackggbdkaaW.PrintLast
set_option maxRecDepth 100000
set_option linter.unusedSimpArgs false
/-- An expression came back; the reader stands where it stood, or further. -/
def Cx.ex (x : Cx) (w : World) (a : Nat) (e : Ending) (w' : World) : Prop := RetE e ∧ ∃ a', a ≤ a' ∧ x.at w' a' ∧ x.kp w w'
def Cx.PE (x : Cx) (f : Nat) (d : Int) : Prop := ∀ w a, x.at w a → Calls Try.prog f #[.pointer (some ⟨x.g, 0, none⟩), .int .i64 d] w fun e w' => x.ex w a e w'
theorem Cx.PE.use {x : Cx} {f : Nat} {d : Int} (h : x.PE f d) (w : World) (a : Nat) (hw : x.at w a) : Calls Try.prog f #[.pointer (some ⟨x.g, 0, none⟩), .int .i64 d] w fun e w' => x.ex w a e w' := h w a hw
theorem Cx.at.alloc {x : Cx} {w : World} {a : Nat} (h : x.at w a) (o : Obj) : x.at (w.alloc o) a := h.below ((Below.refl _ _).alloc (Nat.le_refl _) _)
theorem Cx.at.drew {x : Cx} {w : World} {a : Nat} (h : x.at w a) : x.at w.drew a := h.below (Below.refl _ _).drew
theorem Cx.at.other {x : Cx} {w : World} {a : Nat} (h : x.at w a) {q : Addr} (hne : q.block ≠ x.g) (hge : x.w0.heap.size ≤ q.block) (u : Value) : x.at (w.setCell q u) a := by
  obtain ⟨en, er, po, hh, ha, hb⟩ := h
  exact ⟨en, er, po, (set_other _ _ _ _ (Ne.symm hne)).trans hh, ha, hb.setCell hge _⟩
theorem Cx.kp.alloc {x : Cx} {w w' : World} (h : x.kp w w') (o : Obj) : x.kp w (w'.alloc o) := h.below ((Below.refl _ _).alloc (Nat.le_refl _) _)
theorem Cx.kp.drew {x : Cx} {w w' : World} (h : x.kp w w') : x.kp w w'.drew := h.below (Below.refl _ _).drew
theorem Cx.kp.other {x : Cx} {w w' : World} (h : x.kp w w') {q : Addr} (hge : w.heap.size ≤ q.block) (u : Value) : x.kp w (w'.setCell q u) :=
  ⟨by rw [set_size]; exact h.1, fun j hj hne => by rw [set_other _ _ _ _ (by omega)]; exact h.2 j hj hne⟩
theorem cells8 {w : World} {g : Nat} {t : TypeId} {x0 x1 x2 x3 x4 x5 x6 x7 : Value} (h : w.heap[g]? = some (.cells #[x0, x1, x2, x3, x4, x5, x6, x7] t (0, 0))) :
    w.cell? ⟨g, 0, none⟩ = some x0 ∧ w.cell? ⟨g, 1, none⟩ = some x1 ∧ w.cell? ⟨g, 2, none⟩ = some x2 ∧ w.cell? ⟨g, 3, none⟩ = some x3 ∧ w.cell? ⟨g, 4, none⟩ = some x4 ∧ w.cell? ⟨g, 5, none⟩ = some x5 ∧ w.cell? ⟨g, 6, none⟩ = some x6 ∧ w.cell? ⟨g, 7, none⟩ = some x7 ∧
      w.frozen? ⟨g, 0, none⟩ = false ∧ w.frozen? ⟨g, 1, none⟩ = false ∧ w.frozen? ⟨g, 2, none⟩ = false ∧ w.frozen? ⟨g, 3, none⟩ = false ∧ w.frozen? ⟨g, 4, none⟩ = false ∧ w.frozen? ⟨g, 5, none⟩ = false ∧ w.frozen? ⟨g, 6, none⟩ = false ∧ w.frozen? ⟨g, 7, none⟩ = false :=
  ⟨cell_of h 0, cell_of h 1, cell_of h 2, cell_of h 3, cell_of h 4, cell_of h 5, cell_of h 6, cell_of h 7, free_of h 0, free_of h 1, free_of h 2, free_of h 3, free_of h 4, free_of h 5, free_of h 6, free_of h 7⟩
theorem cells8a {w : World} {g : Nat} {t : TypeId} {x0 x1 x2 x3 x4 x5 x6 x7 : Value} (h : w.heap[g]? = some (.cells #[x0, x1, x2, x3, x4, x5, x6, x7] t (0, 0))) :
    (∀ o, (w.alloc o).cell? ⟨g, 0, none⟩ = some x0) ∧ (∀ o, (w.alloc o).cell? ⟨g, 1, none⟩ = some x1) ∧ (∀ o, (w.alloc o).cell? ⟨g, 2, none⟩ = some x2) ∧ (∀ o, (w.alloc o).cell? ⟨g, 3, none⟩ = some x3) ∧ (∀ o, (w.alloc o).cell? ⟨g, 4, none⟩ = some x4) ∧ (∀ o, (w.alloc o).cell? ⟨g, 5, none⟩ = some x5) ∧ (∀ o, (w.alloc o).cell? ⟨g, 6, none⟩ = some x6) ∧ (∀ o, (w.alloc o).cell? ⟨g, 7, none⟩ = some x7) ∧ (∀ o, (w.alloc o).frozen? ⟨g, 0, none⟩ = false) ∧ (∀ o, (w.alloc o).frozen? ⟨g, 1, none⟩ = false) ∧ (∀ o, (w.alloc o).frozen? ⟨g, 2, none⟩ = false) ∧ (∀ o, (w.alloc o).frozen? ⟨g, 3, none⟩ = false) ∧ (∀ o, (w.alloc o).frozen? ⟨g, 4, none⟩ = false) ∧ (∀ o, (w.alloc o).frozen? ⟨g, 5, none⟩ = false) ∧ (∀ o, (w.alloc o).frozen? ⟨g, 6, none⟩ = false) ∧ (∀ o, (w.alloc o).frozen? ⟨g, 7, none⟩ = false) :=
  have k := fun o => (Below.heap_alloc w o g (Array.getElem?_eq_some_iff.1 h).1).trans h
  ⟨fun o => cell_of (k o) 0, fun o => cell_of (k o) 1, fun o => cell_of (k o) 2, fun o => cell_of (k o) 3, fun o => cell_of (k o) 4, fun o => cell_of (k o) 5, fun o => cell_of (k o) 6, fun o => cell_of (k o) 7, fun o => free_of (k o) 0, fun o => free_of (k o) 1, fun o => free_of (k o) 2, fun o => free_of (k o) 3, fun o => free_of (k o) 4, fun o => free_of (k o) 5, fun o => free_of (k o) 6, fun o => free_of (k o) 7⟩
theorem empty_list : (⟨#[]⟩ : ByteArray).toList = [] := by first | rfl | (simp; done) | decide +kernel
theorem far8 {w : World} {g i : Nat} (h : i ≠ g) (y0 y1 y2 y3 y4 y5 y6 y7 : Value) :
    ((((((((w.setCell ⟨g, 0, none⟩ y0).setCell ⟨g, 1, none⟩ y1).setCell ⟨g, 2, none⟩ y2).setCell ⟨g, 3, none⟩ y3).setCell ⟨g, 4, none⟩ y4).setCell ⟨g, 5, none⟩ y5).setCell ⟨g, 6, none⟩ y6).setCell ⟨g, 7, none⟩ y7).heap[i]? = w.heap[i]? := by
  rw [set_other _ _ _ _ h, set_other _ _ _ _ h, set_other _ _ _ _ h, set_other _ _ _ _ h, set_other _ _ _ _ h, set_other _ _ _ _ h, set_other _ _ _ _ h, set_other _ _ _ _ h]
theorem blk_in {w : World} {b : Nat} {o : Obj} (h : w.heap[b]? = some o) : b < w.heap.size := (Array.getElem?_eq_some_iff.1 h).1
theorem alloc_blk {w : World} {b : Nat} {o o' : Obj} (h : w.heap[b]? = some o) : (w.alloc o').heap[b]? = some o := (Below.heap_alloc _ _ _ (Array.getElem?_eq_some_iff.1 h).1).trans h
set_option maxHeartbeats 2000000 in
theorem unary_any (x : Cx) (hx : x.ok) (d : Int) (hd0 : 0 ≤ d) (hU : d ≤ 8 → x.PE 95 (d + 1)) (hA : d ≤ 8 → x.PE 96 d) : x.PE 95 d := by
  intro w a h
  have hne : w.heap.size ≠ x.g := by have := h.lt; omega
  have hge : x.w0.heap.size ≤ w.heap.size := h.old.size
  obtain ⟨W1, hW1⟩ : ∃ W1, w.alloc (.cells #[.int .i64 0, .bool false, .int .i64 0, .int .i64 0, .string ⟨#[]⟩, .bool false, .bool false, .slice none 0 0] 110) = W1 := ⟨_, rfl⟩
  have H1 : Hid (x.at W1 a ∧ x.kp w W1 ∧ W1.heap[w.heap.size]? = some (.cells #[.int .i64 0, .bool false, .int .i64 0, .int .i64 0, .string ⟨#[]⟩, .bool false, .bool false, .slice none 0 0] 110 (0, 0))) := Lib.hid (by rw [← hW1]; exact ⟨h.alloc _, (Cx.kp.refl _ _).alloc _, heap_alloc_new w _⟩)
  have hlt1 : w.heap.size < W1.heap.size := (Array.getElem?_eq_some_iff.1 H1.out.2.2).1
  clear h
  have HU := Lib.hid hU
  have HA := Lib.hid hA
  clear hU hA
  go_enter Try.func95, Try.ntmps95
  go_wp2_with fail
  refine (deep_any x hx W1 a d H1.out.1).mono ?_
  rintro e w2 ⟨⟨b, rfl, hb⟩, h2, k2⟩
  have H2 : Hid (x.at w2 _ ∧ x.kp w w2 ∧ w2.heap[w.heap.size]? = some (.cells #[.int .i64 0, .bool false, .int .i64 0, .int .i64 0, .string ⟨#[]⟩, .bool false, .bool false, .slice none 0 0] 110 (0, 0))) := Lib.hid ⟨h2, H1.out.2.1.trans k2, k2.blk H1.out.2.2 hne⟩
  clear h2 k2
  cases b
  · have hd : d ≤ 8 := by
      rcases Int.lt_or_le 8 d with h | h
      · cases hb h
      · exact h
    clear hb
    go_wp2_with fail
    refine (take_lit x hx w2 a H2.out.1 [⟨#[45]⟩] (by decide)).mono ?_
    rintro e w3 ⟨s, a3, rfl, hs, h3, k3⟩
    have HS := Lib.hid hs
    have H3 : Hid (x.at w3 _ ∧ x.kp w w3 ∧ w3.heap[w.heap.size]? = some (.cells #[.int .i64 0, .bool false, .int .i64 0, .int .i64 0, .string ⟨#[]⟩, .bool false, .bool false, .slice none 0 0] 110 (0, 0))) := Lib.hid ⟨h3, H2.out.2.1.trans k3, k3.blk H2.out.2.2 hne⟩
    clear h3 k3
    by_cases he : s.toList = []
    · go_wp2_with fail
      refine (HA.out hd w3 a3 H3.out.1).mono ?_
      rintro e w4 ⟨⟨y, rfl⟩, a4, ha4, h4, k4⟩
      have H4 : Hid (x.at w4 _ ∧ x.kp w w4 ∧ w4.heap[w.heap.size]? = some (.cells #[.int .i64 0, .bool false, .int .i64 0, .int .i64 0, .string ⟨#[]⟩, .bool false, .bool false, .slice none 0 0] 110 (0, 0))) := Lib.hid ⟨h4, H3.out.2.1.trans k4, k4.blk H3.out.2.2 hne⟩
      clear h4 k4
      have hh4 := H4.out.2.2
      obtain ⟨c0, c1, c2, c3, c4, c5, c6, c7, cf0, cf1, cf2, cf3, cf4, cf5, cf6, cf7⟩ := cells8 hh4
      clear hh4
      go_wp2_with fail
      have ha3 : a ≤ a3 := by rcases HS.out with ⟨h, _⟩ | h <;> omega
      refine bodyPost_ret (results_cell_row rfl _ _ w.heap.size 110 _ (0, 0) _ rfl (put8 H4.out.2.2 _ _ _ _ _ _ _ _) Try.underlying110 rfl (by kernel_rfl)) rfl ?_
      have hat := H4.out.1
      have hkp := H4.out.2.1
      exact ⟨⟨⟨_, _, _, _, _, _, _, _, _, _⟩, rfl⟩, a4, by omega, (by repeat (with_reducible first | exact hat | refine Cx.at.other ?_ hne hge _ | refine Cx.at.alloc ?_ _ | refine Cx.at.drew ?_)), (by repeat (with_reducible first | exact hkp | refine Cx.kp.other ?_ (Nat.le_refl _) _ | refine Cx.kp.alloc ?_ _ | refine Cx.kp.drew ?_))⟩
    · have he2 : (s.toList == []) = false := by simpa using he
      clear he
      go_wp2_with fail
      refine (HU.out hd w3 a3 H3.out.1).mono ?_
      rintro e w4 ⟨⟨y, rfl⟩, a4, ha4, h4, k4⟩
      have H4 : Hid (x.at w4 _ ∧ x.kp w w4 ∧ w4.heap[w.heap.size]? = some (.cells #[.int .i64 0, .bool false, .int .i64 0, .int .i64 0, .string ⟨#[]⟩, .bool false, .bool false, .slice none 0 0] 110 (0, 0))) := Lib.hid ⟨h4, H3.out.2.1.trans k4, k4.blk H3.out.2.2 hne⟩
      clear h4 k4
      have hh4 := H4.out.2.2
      obtain ⟨c0, c1, c2, c3, c4, c5, c6, c7, cf0, cf1, cf2, cf3, cf4, cf5, cf6, cf7⟩ := cells8a hh4
      clear hh4
      go_wp2_with fail
      have ha3 : a ≤ a3 := by rcases HS.out with ⟨h, _⟩ | h <;> omega
      refine bodyPost_ret (results_cell_row rfl _ _ w.heap.size 110 _ (0, 0) _ rfl (put8 (alloc_blk H4.out.2.2) _ _ _ _ _ _ _ _) Try.underlying110 rfl (by kernel_rfl)) rfl ?_
      have hat := H4.out.1
      have hkp := H4.out.2.1
      exact ⟨⟨⟨_, _, _, _, _, _, _, _, _, _⟩, rfl⟩, a4, by omega, (by repeat (with_reducible first | exact hat | refine Cx.at.other ?_ hne hge _ | refine Cx.at.alloc ?_ _ | refine Cx.at.drew ?_)), (by repeat (with_reducible first | exact hkp | refine Cx.kp.other ?_ (Nat.le_refl _) _ | refine Cx.kp.alloc ?_ _ | refine Cx.kp.drew ?_))⟩
  · have hh2 := H2.out.2.2
    obtain ⟨c0, c1, c2, c3, c4, c5, c6, c7, cf0, cf1, cf2, cf3, cf4, cf5, cf6, cf7⟩ := cells8 hh2
    clear hh2
    go_wp2_with fail
    refine bodyPost_ret (results_cell_row rfl _ _ w.heap.size 110 _ (0, 0) _ rfl (put8 H2.out.2.2 _ _ _ _ _ _ _ _) Try.underlying110 rfl (by kernel_rfl)) rfl ?_
    have hat := H2.out.1
    have hkp := H2.out.2.1
    exact ⟨⟨⟨_, _, _, _, _, _, _, _, _, _⟩, rfl⟩, a, Nat.le_refl _, (by repeat (with_reducible first | exact hat | refine Cx.at.other ?_ hne hge _ | refine Cx.at.alloc ?_ _ | refine Cx.at.drew ?_)), (by repeat (with_reducible first | exact hkp | refine Cx.kp.other ?_ (Nat.le_refl _) _ | refine Cx.kp.alloc ?_ _ | refine Cx.kp.drew ?_))⟩
set_option maxHeartbeats 2000000 in
theorem mul_any (x : Cx) (hx : x.ok) (d : Int) (hG : x.PE 95 d) : x.PE 94 d := by
  intro w a h
  have hne : w.heap.size ≠ x.g := by have := h.lt; omega
  have hge : x.w0.heap.size ≤ w.heap.size := h.old.size
  obtain ⟨W1, hW1⟩ : ∃ W1, w.alloc (.cells #[.int .i64 0, .bool false, .int .i64 0, .int .i64 0, .string ⟨#[]⟩, .bool false, .bool false, .slice none 0 0] 110) = W1 := ⟨_, rfl⟩
  have H1 : Hid (x.at W1 a ∧ x.kp w W1 ∧ W1.heap[w.heap.size]? = some (.cells #[.int .i64 0, .bool false, .int .i64 0, .int .i64 0, .string ⟨#[]⟩, .bool false, .bool false, .slice none 0 0] 110 (0, 0))) := Lib.hid (by rw [← hW1]; exact ⟨h.alloc _, (Cx.kp.refl _ _).alloc _, heap_alloc_new w _⟩)
  have hlt1 : w.heap.size < W1.heap.size := (Array.getElem?_eq_some_iff.1 H1.out.2.2).1
  clear h
  have HG := Lib.hid hG
  clear hG
  go_enter Try.func94, Try.ntmps94
  go_wp2_with fail
  refine (HG.out W1 a H1.out.1).mono ?_
  rintro e w2 ⟨⟨y, rfl⟩, a2, ha2, h2, k2⟩
  have H2 : Hid (x.at w2 _ ∧ x.kp w w2 ∧ w2.heap[w.heap.size]? = some (.cells #[.int .i64 0, .bool false, .int .i64 0, .int .i64 0, .string ⟨#[]⟩, .bool false, .bool false, .slice none 0 0] 110 (0, 0))) := Lib.hid ⟨h2, H1.out.2.1.trans k2, k2.blk H1.out.2.2 hne⟩
  clear h2 k2
  go_wp2_with fail
  obtain ⟨b5, hb5⟩ : ∃ b5, w2.heap.size = b5 := ⟨_, rfl⟩
  have hb5g : b5 ≠ x.g := by have := H2.out.1.lt; omega
  have hb5w : w.heap.size < b5 := by have := blk_in H2.out.2.2; omega
  have H3 : Hid (x.at (w2.alloc (.cells #[.int .i64 y.k, .bool y.b, .int .i64 y.m, .int .i64 y.s, .string y.t, .bool y.lo, .bool y.hi, .slice y.A y.n y.c] 110)) a2 ∧ x.kp w (w2.alloc (.cells #[.int .i64 y.k, .bool y.b, .int .i64 y.m, .int .i64 y.s, .string y.t, .bool y.lo, .bool y.hi, .slice y.A y.n y.c] 110)) ∧ (w2.alloc (.cells #[.int .i64 y.k, .bool y.b, .int .i64 y.m, .int .i64 y.s, .string y.t, .bool y.lo, .bool y.hi, .slice y.A y.n y.c] 110)).heap[w.heap.size]? = some (.cells #[.int .i64 0, .bool false, .int .i64 0, .int .i64 0, .string ⟨#[]⟩, .bool false, .bool false, .slice none 0 0] 110 (0, 0)) ∧ (w2.alloc (.cells #[.int .i64 y.k, .bool y.b, .int .i64 y.m, .int .i64 y.s, .string y.t, .bool y.lo, .bool y.hi, .slice y.A y.n y.c] 110)).heap[b5]? = some (.cells #[.int .i64 y.k, .bool y.b, .int .i64 y.m, .int .i64 y.s, .string y.t, .bool y.lo, .bool y.hi, .slice y.A y.n y.c] 110 (0, 0))) := Lib.hid ⟨H2.out.1.alloc _, H2.out.2.1.alloc _, alloc_blk H2.out.2.2, by rw [← hb5]; exact heap_alloc_new w2 _⟩
  try rw [hb5]
  generalize w2.alloc (.cells #[.int .i64 y.k, .bool y.b, .int .i64 y.m, .int .i64 y.s, .string y.t, .bool y.lo, .bool y.hi, .slice y.A y.n y.c] 110) = w3 at H3 ⊢
  clear H2 hb5 hW1 hlt1
  go_loopg [] x.l (fun gk wr => ∃ a', a ≤ a' ∧ x.l ≤ gk + a' ∧ ∃ y : Ex, Hid (x.at wr a' ∧ x.kp w wr ∧ wr.heap[w.heap.size]? = some (.cells #[.int .i64 0, .bool false, .int .i64 0, .int .i64 0, .string ⟨#[]⟩, .bool false, .bool false, .slice none 0 0] 110 (0, 0)) ∧ wr.heap[b5]? = some (.cells #[.int .i64 y.k, .bool y.b, .int .i64 y.m, .int .i64 y.s, .string y.t, .bool y.lo, .bool y.hi, .slice y.A y.n y.c] 110 (0, 0))))
  case atStart => exact ⟨a2, ha2, by omega, y, H3⟩
  case round =>
    clear H3
    obtain ⟨a', ha', hgk, z, HR⟩ := hrel
    have HGK := Lib.hid hgk
    clear hgk
    go_wp2_with fail
    refine (take_lit x hx wr a' HR.out.1 [⟨#[42]⟩, ⟨#[47]⟩] (by decide)).mono ?_
    rintro e w4 ⟨s, a4, rfl, hs, h4, k4⟩
    have HS := Lib.hid hs
    have H4 : Hid (x.at w4 a4 ∧ x.kp w w4 ∧ w4.heap[w.heap.size]? = some (.cells #[.int .i64 0, .bool false, .int .i64 0, .int .i64 0, .string ⟨#[]⟩, .bool false, .bool false, .slice none 0 0] 110 (0, 0)) ∧ w4.heap[b5]? = some (.cells #[.int .i64 z.k, .bool z.b, .int .i64 z.m, .int .i64 z.s, .string z.t, .bool z.lo, .bool z.hi, .slice z.A z.n z.c] 110 (0, 0))) := Lib.hid ⟨h4, HR.out.2.1.trans k4, k4.blk HR.out.2.2.1 hne, k4.blk HR.out.2.2.2 hb5g⟩
    clear h4 k4 hs HR
    by_cases he : s.toList = []
    · have hh4 := H4.out.2.2.1
      have hx4 := H4.out.2.2.2
      obtain ⟨c0, c1, c2, c3, c4, c5, c6, c7, cf0, cf1, cf2, cf3, cf4, cf5, cf6, cf7⟩ := cells8 hh4
      obtain ⟨v0, v1, v2, v3, v4, v5, v6, v7, vf0, vf1, vf2, vf3, vf4, vf5, vf6, vf7⟩ := cells8 hx4
      clear hh4 hx4
      go_wp2_with fail
      have ha3 : a' ≤ a4 := by rcases HS.out with ⟨h, _⟩ | h <;> omega
      refine bodyPost_ret (results_cell_row rfl _ _ w.heap.size 110 _ (0, 0) _ rfl (put8 H4.out.2.2.1 _ _ _ _ _ _ _ _) Try.underlying110 rfl (by kernel_rfl)) rfl ?_
      have hat := H4.out.1
      have hkp := H4.out.2.1
      exact ⟨⟨⟨_, _, _, _, _, _, _, _, _, _⟩, rfl⟩, a4, by omega, (by repeat (with_reducible first | exact hat | refine Cx.at.other ?_ hne hge _ | refine Cx.at.alloc ?_ _ | refine Cx.at.drew ?_)), (by repeat (with_reducible first | exact hkp | refine Cx.kp.other ?_ (Nat.le_refl _) _ | refine Cx.kp.alloc ?_ _ | refine Cx.kp.drew ?_))⟩
    · have he2 : (s.toList == []) = false := by simpa using he
      have he3 : (s.toList != []) = true := by simpa using he
      have ha4 : a4 = a' + 1 := by
        rcases HS.out with ⟨_, h⟩ | h
        · rw [h] at he
          exact absurd empty_list he
        · exact h
      subst ha4
      clear he
      go_wp2_with fail
      have hx4 := H4.out.2.2.2
      obtain ⟨v0, v1, v2, v3, v4, v5, v6, v7, vf0, vf1, vf2, vf3, vf4, vf5, vf6, vf7⟩ := cells8 hx4
      clear hx4
      have hxd : w4.drew.heap[b5]? = _ := H4.out.2.2.2
      refine start_ (n := 7) (S := fun w' => w'.cell? ⟨b5, 0, none⟩ = some (.int .i64 z.k) ∧ w'.cell? ⟨b5, 1, none⟩ = some (.bool z.b) ∧ w'.cell? ⟨b5, 2, none⟩ = some (.int .i64 z.m) ∧ w'.cell? ⟨b5, 3, none⟩ = some (.int .i64 z.s) ∧ w'.cell? ⟨b5, 4, none⟩ = some (.string z.t) ∧ w'.cell? ⟨b5, 5, none⟩ = some (.bool z.lo) ∧ w'.cell? ⟨b5, 6, none⟩ = some (.bool z.hi) ∧ w'.cell? ⟨b5, 7, none⟩ = some (.slice z.A z.n z.c)) (ds := [6]) #[false, false, false, false, false, false, false] (by kernel_rfl) rfl rfl ⟨(cell_of hxd 0), (cell_of hxd 1), (cell_of hxd 2), (cell_of hxd 3), (cell_of hxd 4), (cell_of hxd 5), (cell_of hxd 6), (cell_of hxd 7)⟩ (fun hHeld => ?_)
      refine pure_ (i := 0) (N := some 16) (v := ?_) (a' := ?_) #[true, false, false, false, false, false, false] rfl rfl (by kernel_rfl) (fun _ _ _ h => h) (Or.inl ⟨by rfl, ?_⟩) ?_ ?_
      rotate_left
      · intro w'
        go_simp
        with_reducible rfl
      rotate_left
      · simp only [Act.put, List.setIfInBounds_toArray, List.set_cons_zero, List.set_cons_succ, i64_w, i32_w]
        rfl
      refine pure_ (i := 2) (N := some 18) (v := ?_) (a' := ?_) #[true, false, true, false, false, false, false] rfl rfl (by kernel_rfl) (fun _ _ _ h => h) (Or.inl ⟨by rfl, ?_⟩) ?_ ?_
      rotate_left
      · intro w'
        go_simp
        with_reducible rfl
      rotate_left
      · simp only [Act.put, List.setIfInBounds_toArray, List.set_cons_zero, List.set_cons_succ, i64_w, i32_w]
        rfl
      refine pure_ (i := 3) (N := some 19) (v := ?_) (a' := ?_) #[true, false, true, true, false, false, false] rfl rfl (by kernel_rfl) (fun _ _ _ h => h) (Or.inl ⟨by rfl, ?_⟩) ?_ ?_
      rotate_left
      · intro w'
        go_simp
        with_reducible rfl
      rotate_left
      · simp only [Act.put, List.setIfInBounds_toArray, List.set_cons_zero, List.set_cons_succ, i64_w, i32_w]
        rfl
      refine take_ (i := 1) (N := some 17) (v := ?_) (a' := ?_) #[true, true, true, true, false, false, false] rfl rfl (by kernel_rfl) (fun _ _ _ h => h) (Or.inl ⟨by rfl, ?_⟩) hHeld ?_ ?_
      rotate_left
      · rintro w' ⟨s0, s1, s2, s3, s4, s5, s6, s7⟩
        go_simp
        with_reducible rfl
      rotate_left
      · simp only [Act.put, List.setIfInBounds_toArray, List.set_cons_zero, List.set_cons_succ, i64_w, i32_w]
        rfl
      refine one_ (i := 4) (N := some 20) #[true, true, true, true, true, false, false] rfl rfl (by kernel_rfl) (by decide) (fun K hK => ?_)
      refine goes_ Try.func95 (by kernel_rfl) rfl #[.pointer (some ⟨x.g, 0, none⟩), .int .i64 d] (by rfl) rfl rfl (by simp only [List.map_toArray, List.map_cons, List.map_nil]; rfl) ?_
      with_reducible refine (HG.out.use w4.drew (a' + 1) H4.out.1.drew).mono ?_
      rintro e w5 ⟨⟨u, rfl⟩, a5, ha5, h5, k5⟩
      refine ⟨_, rfl, ?_⟩
      have H5 : Hid (x.at w5 a5 ∧ x.kp w4 w5 ∧ w5.heap[b5]? = some (.cells #[.int .i64 z.k, .bool z.b, .int .i64 z.m, .int .i64 z.s, .string z.t, .bool z.lo, .bool z.hi, .slice z.A z.n z.c] 110 (0, 0)) ∧ a' + 1 ≤ a5) := Lib.hid ⟨h5, (Cx.kp.refl x w4).drew.trans k5, k5.blk (w := w4.drew) H4.out.2.2.2 hb5g, ha5⟩
      clear h5 k5 ha5
      obtain ⟨q0, q1, q2, q3, q4, q5, q6, q7, qf0, qf1, qf2, qf3, qf4, qf5, qf6, qf7⟩ := cells8 H5.out.2.2.1
      refine hK.out _ _ ⟨q0, q1, q2, q3, q4, q5, q6, q7⟩ (fun hHeld => ?_)
      clear hK K
      refine norm_ (a' := ?_) ?_ ?_
      rotate_left
      · show Act.put _ (some 20) _ = _
        simp only [Act.put, List.setIfInBounds_toArray, List.set_cons_zero, List.set_cons_succ, i64_w, i32_w]
        rfl
      refine one_ (i := 5) (N := some 21) #[true, true, true, true, true, true, false] rfl rfl (by kernel_rfl) (by decide) (fun K hK => ?_)
      refine goes_ Try.func82 (by kernel_rfl) rfl #[.string s, .agg #[.int .i64 z.k, .bool z.b, .int .i64 z.m, .int .i64 z.s, .string z.t, .bool z.lo, .bool z.hi, .slice z.A z.n z.c], .agg #[.int .i64 u.k, .bool u.b, .int .i64 u.m, .int .i64 u.s, .string u.t, .bool u.lo, .bool u.hi, .slice u.A u.n u.c]] (by rfl) rfl rfl (by simp only [List.map_toArray, List.map_cons, List.map_nil]; rfl) ?_
      with_reducible refine (bin_any s z u w5).mono ?_
      rintro e w6 ⟨⟨v, rfl⟩, hb6⟩
      refine ⟨_, rfl, ?_⟩
      have H6 : Hid (x.at w6 a5 ∧ x.kp w4 w6 ∧ w6.heap[b5]? = some (.cells #[.int .i64 z.k, .bool z.b, .int .i64 z.m, .int .i64 z.s, .string z.t, .bool z.lo, .bool z.hi, .slice z.A z.n z.c] 110 (0, 0))) := Lib.hid ⟨H5.out.1.below hb6, H5.out.2.1.below hb6, (hb6.block b5 (blk_in H5.out.2.2.1)).trans H5.out.2.2.1⟩
      clear hb6
      obtain ⟨r0, r1, r2, r3, r4, r5, r6, r7, rf0, rf1, rf2, rf3, rf4, rf5, rf6, rf7⟩ := cells8 H6.out.2.2
      refine hK.out _ _ ⟨r0, r1, r2, r3, r4, r5, r6, r7⟩ (fun hHeld => ?_)
      clear hK K
      refine norm_ (a' := ?_) ?_ ?_
      rotate_left
      · show Act.put _ (some 21) _ = _
        simp only [Act.put, List.setIfInBounds_toArray, List.set_cons_zero, List.set_cons_succ, i64_w, i32_w]
        rfl
      refine last_ (i := 6) (N := none) #[true, true, true, true, true, true, true] rfl rfl (by kernel_rfl) (by decide) (fun K hK => ?_)
      refine skip_ (w1 := ?_) (by rfl) rfl ?_ ?_
      rotate_left
      · go_simp
        rfl
      refine hK.out _ _ ?_
      clear hK K
      refine done_ (by kernel_rfl) ?_

      have H7 : Hid (x.at w6 a5 ∧ x.kp w w6 ∧ w6.heap[w.heap.size]? = some (.cells #[.int .i64 0, .bool false, .int .i64 0, .int .i64 0, .string ⟨#[]⟩, .bool false, .bool false, .slice none 0 0] 110 (0, 0))) := Lib.hid ⟨H6.out.1, H4.out.2.1.trans H6.out.2.1, H6.out.2.1.blk H4.out.2.2.1 hne⟩
      go_wp2_with fail
      go_roundg (x.l - a5)
      case rel =>
        have hat := H7.out.1
        have hkp := H7.out.2.1
        have hge5 : x.w0.heap.size ≤ b5 := Nat.le_trans hge (Nat.le_of_lt hb5w)
        have hl5 := hat.le
        exact ⟨a5, by have := H5.out.2.2.2; omega, by omega, v, Lib.hid ⟨(by repeat (with_reducible first | exact hat | refine Cx.at.other ?_ hb5g hge5 _ | refine Cx.at.alloc ?_ _ | refine Cx.at.drew ?_)), (by repeat (with_reducible first | exact hkp | refine Cx.kp.other ?_ (Nat.le_of_lt hb5w) _ | refine Cx.kp.alloc ?_ _ | refine Cx.kp.drew ?_)), (far8 (by omega) _ _ _ _ _ _ _ _).trans H7.out.2.2, put8 H6.out.2.2 _ _ _ _ _ _ _ _⟩⟩
      case measure => have := HGK.out; have := H5.out.2.2.2; have := H7.out.1.le; omega
set_option maxHeartbeats 2000000 in
theorem add_any (x : Cx) (hx : x.ok) (d : Int) (hG : x.PE 94 d) : x.PE 92 d := by
  intro w a h
  have hne : w.heap.size ≠ x.g := by have := h.lt; omega
  have hge : x.w0.heap.size ≤ w.heap.size := h.old.size
  obtain ⟨W1, hW1⟩ : ∃ W1, w.alloc (.cells #[.int .i64 0, .bool false, .int .i64 0, .int .i64 0, .string ⟨#[]⟩, .bool false, .bool false, .slice none 0 0] 110) = W1 := ⟨_, rfl⟩
  have H1 : Hid (x.at W1 a ∧ x.kp w W1 ∧ W1.heap[w.heap.size]? = some (.cells #[.int .i64 0, .bool false, .int .i64 0, .int .i64 0, .string ⟨#[]⟩, .bool false, .bool false, .slice none 0 0] 110 (0, 0))) := Lib.hid (by rw [← hW1]; exact ⟨h.alloc _, (Cx.kp.refl _ _).alloc _, heap_alloc_new w _⟩)
  have hlt1 : w.heap.size < W1.heap.size := (Array.getElem?_eq_some_iff.1 H1.out.2.2).1
  clear h
  have HG := Lib.hid hG
  clear hG
  go_enter Try.func92, Try.ntmps92
  go_wp2_with fail
  refine (HG.out W1 a H1.out.1).mono ?_
  rintro e w2 ⟨⟨y, rfl⟩, a2, ha2, h2, k2⟩
  have H2 : Hid (x.at w2 _ ∧ x.kp w w2 ∧ w2.heap[w.heap.size]? = some (.cells #[.int .i64 0, .bool false, .int .i64 0, .int .i64 0, .string ⟨#[]⟩, .bool false, .bool false, .slice none 0 0] 110 (0, 0))) := Lib.hid ⟨h2, H1.out.2.1.trans k2, k2.blk H1.out.2.2 hne⟩
  clear h2 k2
  go_wp2_with fail
  obtain ⟨b5, hb5⟩ : ∃ b5, w2.heap.size = b5 := ⟨_, rfl⟩
  have hb5g : b5 ≠ x.g := by have := H2.out.1.lt; omega
  have hb5w : w.heap.size < b5 := by have := blk_in H2.out.2.2; omega
  have H3 : Hid (x.at (w2.alloc (.cells #[.int .i64 y.k, .bool y.b, .int .i64 y.m, .int .i64 y.s, .string y.t, .bool y.lo, .bool y.hi, .slice y.A y.n y.c] 110)) a2 ∧ x.kp w (w2.alloc (.cells #[.int .i64 y.k, .bool y.b, .int .i64 y.m, .int .i64 y.s, .string y.t, .bool y.lo, .bool y.hi, .slice y.A y.n y.c] 110)) ∧ (w2.alloc (.cells #[.int .i64 y.k, .bool y.b, .int .i64 y.m, .int .i64 y.s, .string y.t, .bool y.lo, .bool y.hi, .slice y.A y.n y.c] 110)).heap[w.heap.size]? = some (.cells #[.int .i64 0, .bool false, .int .i64 0, .int .i64 0, .string ⟨#[]⟩, .bool false, .bool false, .slice none 0 0] 110 (0, 0)) ∧ (w2.alloc (.cells #[.int .i64 y.k, .bool y.b, .int .i64 y.m, .int .i64 y.s, .string y.t, .bool y.lo, .bool y.hi, .slice y.A y.n y.c] 110)).heap[b5]? = some (.cells #[.int .i64 y.k, .bool y.b, .int .i64 y.m, .int .i64 y.s, .string y.t, .bool y.lo, .bool y.hi, .slice y.A y.n y.c] 110 (0, 0))) := Lib.hid ⟨H2.out.1.alloc _, H2.out.2.1.alloc _, alloc_blk H2.out.2.2, by rw [← hb5]; exact heap_alloc_new w2 _⟩
  try rw [hb5]
  generalize w2.alloc (.cells #[.int .i64 y.k, .bool y.b, .int .i64 y.m, .int .i64 y.s, .string y.t, .bool y.lo, .bool y.hi, .slice y.A y.n y.c] 110) = w3 at H3 ⊢
  clear H2 hb5 hW1 hlt1
  go_loopg [] x.l (fun gk wr => ∃ a', a ≤ a' ∧ x.l ≤ gk + a' ∧ ∃ y : Ex, Hid (x.at wr a' ∧ x.kp w wr ∧ wr.heap[w.heap.size]? = some (.cells #[.int .i64 0, .bool false, .int .i64 0, .int .i64 0, .string ⟨#[]⟩, .bool false, .bool false, .slice none 0 0] 110 (0, 0)) ∧ wr.heap[b5]? = some (.cells #[.int .i64 y.k, .bool y.b, .int .i64 y.m, .int .i64 y.s, .string y.t, .bool y.lo, .bool y.hi, .slice y.A y.n y.c] 110 (0, 0))))
  case atStart => exact ⟨a2, ha2, by omega, y, H3⟩
  case round =>
    clear H3
    obtain ⟨a', ha', hgk, z, HR⟩ := hrel
    have HGK := Lib.hid hgk
    clear hgk
    go_wp2_with fail
    refine (take_lit x hx wr a' HR.out.1 [⟨#[43]⟩, ⟨#[45]⟩] (by decide)).mono ?_
    rintro e w4 ⟨s, a4, rfl, hs, h4, k4⟩
    have HS := Lib.hid hs
    have H4 : Hid (x.at w4 a4 ∧ x.kp w w4 ∧ w4.heap[w.heap.size]? = some (.cells #[.int .i64 0, .bool false, .int .i64 0, .int .i64 0, .string ⟨#[]⟩, .bool false, .bool false, .slice none 0 0] 110 (0, 0)) ∧ w4.heap[b5]? = some (.cells #[.int .i64 z.k, .bool z.b, .int .i64 z.m, .int .i64 z.s, .string z.t, .bool z.lo, .bool z.hi, .slice z.A z.n z.c] 110 (0, 0))) := Lib.hid ⟨h4, HR.out.2.1.trans k4, k4.blk HR.out.2.2.1 hne, k4.blk HR.out.2.2.2 hb5g⟩
    clear h4 k4 hs HR
    by_cases he : s.toList = []
    · have hh4 := H4.out.2.2.1
      have hx4 := H4.out.2.2.2
      obtain ⟨c0, c1, c2, c3, c4, c5, c6, c7, cf0, cf1, cf2, cf3, cf4, cf5, cf6, cf7⟩ := cells8 hh4
      obtain ⟨v0, v1, v2, v3, v4, v5, v6, v7, vf0, vf1, vf2, vf3, vf4, vf5, vf6, vf7⟩ := cells8 hx4
      clear hh4 hx4
      go_wp2_with fail
      have ha3 : a' ≤ a4 := by rcases HS.out with ⟨h, _⟩ | h <;> omega
      refine bodyPost_ret (results_cell_row rfl _ _ w.heap.size 110 _ (0, 0) _ rfl (put8 H4.out.2.2.1 _ _ _ _ _ _ _ _) Try.underlying110 rfl (by kernel_rfl)) rfl ?_
      have hat := H4.out.1
      have hkp := H4.out.2.1
      exact ⟨⟨⟨_, _, _, _, _, _, _, _, _, _⟩, rfl⟩, a4, by omega, (by repeat (with_reducible first | exact hat | refine Cx.at.other ?_ hne hge _ | refine Cx.at.alloc ?_ _ | refine Cx.at.drew ?_)), (by repeat (with_reducible first | exact hkp | refine Cx.kp.other ?_ (Nat.le_refl _) _ | refine Cx.kp.alloc ?_ _ | refine Cx.kp.drew ?_))⟩
    · have he2 : (s.toList == []) = false := by simpa using he
      have he3 : (s.toList != []) = true := by simpa using he
      have ha4 : a4 = a' + 1 := by
        rcases HS.out with ⟨_, h⟩ | h
        · rw [h] at he
          exact absurd empty_list he
        · exact h
      subst ha4
      clear he
      go_wp2_with fail
      have hx4 := H4.out.2.2.2
      obtain ⟨v0, v1, v2, v3, v4, v5, v6, v7, vf0, vf1, vf2, vf3, vf4, vf5, vf6, vf7⟩ := cells8 hx4
      clear hx4
      have hxd : w4.drew.heap[b5]? = _ := H4.out.2.2.2
      refine start_ (n := 7) (S := fun w' => w'.cell? ⟨b5, 0, none⟩ = some (.int .i64 z.k) ∧ w'.cell? ⟨b5, 1, none⟩ = some (.bool z.b) ∧ w'.cell? ⟨b5, 2, none⟩ = some (.int .i64 z.m) ∧ w'.cell? ⟨b5, 3, none⟩ = some (.int .i64 z.s) ∧ w'.cell? ⟨b5, 4, none⟩ = some (.string z.t) ∧ w'.cell? ⟨b5, 5, none⟩ = some (.bool z.lo) ∧ w'.cell? ⟨b5, 6, none⟩ = some (.bool z.hi) ∧ w'.cell? ⟨b5, 7, none⟩ = some (.slice z.A z.n z.c)) (ds := [6]) #[false, false, false, false, false, false, false] (by kernel_rfl) rfl rfl ⟨(cell_of hxd 0), (cell_of hxd 1), (cell_of hxd 2), (cell_of hxd 3), (cell_of hxd 4), (cell_of hxd 5), (cell_of hxd 6), (cell_of hxd 7)⟩ (fun hHeld => ?_)
      refine pure_ (i := 0) (N := some 16) (v := ?_) (a' := ?_) #[true, false, false, false, false, false, false] rfl rfl (by kernel_rfl) (fun _ _ _ h => h) (Or.inl ⟨by rfl, ?_⟩) ?_ ?_
      rotate_left
      · intro w'
        go_simp
        with_reducible rfl
      rotate_left
      · simp only [Act.put, List.setIfInBounds_toArray, List.set_cons_zero, List.set_cons_succ, i64_w, i32_w]
        rfl
      refine pure_ (i := 2) (N := some 18) (v := ?_) (a' := ?_) #[true, false, true, false, false, false, false] rfl rfl (by kernel_rfl) (fun _ _ _ h => h) (Or.inl ⟨by rfl, ?_⟩) ?_ ?_
      rotate_left
      · intro w'
        go_simp
        with_reducible rfl
      rotate_left
      · simp only [Act.put, List.setIfInBounds_toArray, List.set_cons_zero, List.set_cons_succ, i64_w, i32_w]
        rfl
      refine pure_ (i := 3) (N := some 19) (v := ?_) (a' := ?_) #[true, false, true, true, false, false, false] rfl rfl (by kernel_rfl) (fun _ _ _ h => h) (Or.inl ⟨by rfl, ?_⟩) ?_ ?_
      rotate_left
      · intro w'
        go_simp
        with_reducible rfl
      rotate_left
      · simp only [Act.put, List.setIfInBounds_toArray, List.set_cons_zero, List.set_cons_succ, i64_w, i32_w]
        rfl
      refine take_ (i := 1) (N := some 17) (v := ?_) (a' := ?_) #[true, true, true, true, false, false, false] rfl rfl (by kernel_rfl) (fun _ _ _ h => h) (Or.inl ⟨by rfl, ?_⟩) hHeld ?_ ?_
      rotate_left
      · rintro w' ⟨s0, s1, s2, s3, s4, s5, s6, s7⟩
        go_simp
        with_reducible rfl
      rotate_left
      · simp only [Act.put, List.setIfInBounds_toArray, List.set_cons_zero, List.set_cons_succ, i64_w, i32_w]
        rfl
      refine one_ (i := 4) (N := some 20) #[true, true, true, true, true, false, false] rfl rfl (by kernel_rfl) (by decide) (fun K hK => ?_)
      refine goes_ Try.func94 (by kernel_rfl) rfl #[.pointer (some ⟨x.g, 0, none⟩), .int .i64 d] (by rfl) rfl rfl (by simp only [List.map_toArray, List.map_cons, List.map_nil]; rfl) ?_
      with_reducible refine (HG.out.use w4.drew (a' + 1) H4.out.1.drew).mono ?_
      rintro e w5 ⟨⟨u, rfl⟩, a5, ha5, h5, k5⟩
      refine ⟨_, rfl, ?_⟩
      have H5 : Hid (x.at w5 a5 ∧ x.kp w4 w5 ∧ w5.heap[b5]? = some (.cells #[.int .i64 z.k, .bool z.b, .int .i64 z.m, .int .i64 z.s, .string z.t, .bool z.lo, .bool z.hi, .slice z.A z.n z.c] 110 (0, 0)) ∧ a' + 1 ≤ a5) := Lib.hid ⟨h5, (Cx.kp.refl x w4).drew.trans k5, k5.blk (w := w4.drew) H4.out.2.2.2 hb5g, ha5⟩
      clear h5 k5 ha5
      obtain ⟨q0, q1, q2, q3, q4, q5, q6, q7, qf0, qf1, qf2, qf3, qf4, qf5, qf6, qf7⟩ := cells8 H5.out.2.2.1
      refine hK.out _ _ ⟨q0, q1, q2, q3, q4, q5, q6, q7⟩ (fun hHeld => ?_)
      clear hK K
      refine norm_ (a' := ?_) ?_ ?_
      rotate_left
      · show Act.put _ (some 20) _ = _
        simp only [Act.put, List.setIfInBounds_toArray, List.set_cons_zero, List.set_cons_succ, i64_w, i32_w]
        rfl
      refine one_ (i := 5) (N := some 21) #[true, true, true, true, true, true, false] rfl rfl (by kernel_rfl) (by decide) (fun K hK => ?_)
      refine goes_ Try.func82 (by kernel_rfl) rfl #[.string s, .agg #[.int .i64 z.k, .bool z.b, .int .i64 z.m, .int .i64 z.s, .string z.t, .bool z.lo, .bool z.hi, .slice z.A z.n z.c], .agg #[.int .i64 u.k, .bool u.b, .int .i64 u.m, .int .i64 u.s, .string u.t, .bool u.lo, .bool u.hi, .slice u.A u.n u.c]] (by rfl) rfl rfl (by simp only [List.map_toArray, List.map_cons, List.map_nil]; rfl) ?_
      with_reducible refine (bin_any s z u w5).mono ?_
      rintro e w6 ⟨⟨v, rfl⟩, hb6⟩
      refine ⟨_, rfl, ?_⟩
      have H6 : Hid (x.at w6 a5 ∧ x.kp w4 w6 ∧ w6.heap[b5]? = some (.cells #[.int .i64 z.k, .bool z.b, .int .i64 z.m, .int .i64 z.s, .string z.t, .bool z.lo, .bool z.hi, .slice z.A z.n z.c] 110 (0, 0))) := Lib.hid ⟨H5.out.1.below hb6, H5.out.2.1.below hb6, (hb6.block b5 (blk_in H5.out.2.2.1)).trans H5.out.2.2.1⟩
      clear hb6
      obtain ⟨r0, r1, r2, r3, r4, r5, r6, r7, rf0, rf1, rf2, rf3, rf4, rf5, rf6, rf7⟩ := cells8 H6.out.2.2
      refine hK.out _ _ ⟨r0, r1, r2, r3, r4, r5, r6, r7⟩ (fun hHeld => ?_)
      clear hK K
      refine norm_ (a' := ?_) ?_ ?_
      rotate_left
      · show Act.put _ (some 21) _ = _
        simp only [Act.put, List.setIfInBounds_toArray, List.set_cons_zero, List.set_cons_succ, i64_w, i32_w]
        rfl
      refine last_ (i := 6) (N := none) #[true, true, true, true, true, true, true] rfl rfl (by kernel_rfl) (by decide) (fun K hK => ?_)
      refine skip_ (w1 := ?_) (by rfl) rfl ?_ ?_
      rotate_left
      · go_simp
        rfl
      refine hK.out _ _ ?_
      clear hK K
      refine done_ (by kernel_rfl) ?_

      have H7 : Hid (x.at w6 a5 ∧ x.kp w w6 ∧ w6.heap[w.heap.size]? = some (.cells #[.int .i64 0, .bool false, .int .i64 0, .int .i64 0, .string ⟨#[]⟩, .bool false, .bool false, .slice none 0 0] 110 (0, 0))) := Lib.hid ⟨H6.out.1, H4.out.2.1.trans H6.out.2.1, H6.out.2.1.blk H4.out.2.2.1 hne⟩
      go_wp2_with fail
      go_roundg (x.l - a5)
      case rel =>
        have hat := H7.out.1
        have hkp := H7.out.2.1
        have hge5 : x.w0.heap.size ≤ b5 := Nat.le_trans hge (Nat.le_of_lt hb5w)
        have hl5 := hat.le
        exact ⟨a5, by have := H5.out.2.2.2; omega, by omega, v, Lib.hid ⟨(by repeat (with_reducible first | exact hat | refine Cx.at.other ?_ hb5g hge5 _ | refine Cx.at.alloc ?_ _ | refine Cx.at.drew ?_)), (by repeat (with_reducible first | exact hkp | refine Cx.kp.other ?_ (Nat.le_of_lt hb5w) _ | refine Cx.kp.alloc ?_ _ | refine Cx.kp.drew ?_)), (far8 (by omega) _ _ _ _ _ _ _ _).trans H7.out.2.2, put8 H6.out.2.2 _ _ _ _ _ _ _ _⟩⟩
      case measure => have := HGK.out; have := H5.out.2.2.2; have := H7.out.1.le; omega
set_option maxHeartbeats 2000000 in
theorem and_any (x : Cx) (hx : x.ok) (d : Int) (hG : x.PE 87 d) : x.PE 80 d := by
  intro w a h
  have hne : w.heap.size ≠ x.g := by have := h.lt; omega
  have hge : x.w0.heap.size ≤ w.heap.size := h.old.size
  obtain ⟨W1, hW1⟩ : ∃ W1, w.alloc (.cells #[.int .i64 0, .bool false, .int .i64 0, .int .i64 0, .string ⟨#[]⟩, .bool false, .bool false, .slice none 0 0] 110) = W1 := ⟨_, rfl⟩
  have H1 : Hid (x.at W1 a ∧ x.kp w W1 ∧ W1.heap[w.heap.size]? = some (.cells #[.int .i64 0, .bool false, .int .i64 0, .int .i64 0, .string ⟨#[]⟩, .bool false, .bool false, .slice none 0 0] 110 (0, 0))) := Lib.hid (by rw [← hW1]; exact ⟨h.alloc _, (Cx.kp.refl _ _).alloc _, heap_alloc_new w _⟩)
  have hlt1 : w.heap.size < W1.heap.size := (Array.getElem?_eq_some_iff.1 H1.out.2.2).1
  clear h
  have HG := Lib.hid hG
  clear hG
  go_enter Try.func80, Try.ntmps80
  go_wp2_with fail
  refine (HG.out W1 a H1.out.1).mono ?_
  rintro e w2 ⟨⟨y, rfl⟩, a2, ha2, h2, k2⟩
  have H2 : Hid (x.at w2 _ ∧ x.kp w w2 ∧ w2.heap[w.heap.size]? = some (.cells #[.int .i64 0, .bool false, .int .i64 0, .int .i64 0, .string ⟨#[]⟩, .bool false, .bool false, .slice none 0 0] 110 (0, 0))) := Lib.hid ⟨h2, H1.out.2.1.trans k2, k2.blk H1.out.2.2 hne⟩
  clear h2 k2
  go_wp2_with fail
  obtain ⟨b5, hb5⟩ : ∃ b5, w2.heap.size = b5 := ⟨_, rfl⟩
  have hb5g : b5 ≠ x.g := by have := H2.out.1.lt; omega
  have hb5w : w.heap.size < b5 := by have := blk_in H2.out.2.2; omega
  have H3 : Hid (x.at (w2.alloc (.cells #[.int .i64 y.k, .bool y.b, .int .i64 y.m, .int .i64 y.s, .string y.t, .bool y.lo, .bool y.hi, .slice y.A y.n y.c] 110)) a2 ∧ x.kp w (w2.alloc (.cells #[.int .i64 y.k, .bool y.b, .int .i64 y.m, .int .i64 y.s, .string y.t, .bool y.lo, .bool y.hi, .slice y.A y.n y.c] 110)) ∧ (w2.alloc (.cells #[.int .i64 y.k, .bool y.b, .int .i64 y.m, .int .i64 y.s, .string y.t, .bool y.lo, .bool y.hi, .slice y.A y.n y.c] 110)).heap[w.heap.size]? = some (.cells #[.int .i64 0, .bool false, .int .i64 0, .int .i64 0, .string ⟨#[]⟩, .bool false, .bool false, .slice none 0 0] 110 (0, 0)) ∧ (w2.alloc (.cells #[.int .i64 y.k, .bool y.b, .int .i64 y.m, .int .i64 y.s, .string y.t, .bool y.lo, .bool y.hi, .slice y.A y.n y.c] 110)).heap[b5]? = some (.cells #[.int .i64 y.k, .bool y.b, .int .i64 y.m, .int .i64 y.s, .string y.t, .bool y.lo, .bool y.hi, .slice y.A y.n y.c] 110 (0, 0))) := Lib.hid ⟨H2.out.1.alloc _, H2.out.2.1.alloc _, alloc_blk H2.out.2.2, by rw [← hb5]; exact heap_alloc_new w2 _⟩
  try rw [hb5]
  generalize w2.alloc (.cells #[.int .i64 y.k, .bool y.b, .int .i64 y.m, .int .i64 y.s, .string y.t, .bool y.lo, .bool y.hi, .slice y.A y.n y.c] 110) = w3 at H3 ⊢
  clear H2 hb5 hW1 hlt1
  go_loopg [] x.l (fun gk wr => ∃ a', a ≤ a' ∧ x.l ≤ gk + a' ∧ ∃ y : Ex, Hid (x.at wr a' ∧ x.kp w wr ∧ wr.heap[w.heap.size]? = some (.cells #[.int .i64 0, .bool false, .int .i64 0, .int .i64 0, .string ⟨#[]⟩, .bool false, .bool false, .slice none 0 0] 110 (0, 0)) ∧ wr.heap[b5]? = some (.cells #[.int .i64 y.k, .bool y.b, .int .i64 y.m, .int .i64 y.s, .string y.t, .bool y.lo, .bool y.hi, .slice y.A y.n y.c] 110 (0, 0))))
  case atStart => exact ⟨a2, ha2, by omega, y, H3⟩
  case round =>
    clear H3
    obtain ⟨a', ha', hgk, z, HR⟩ := hrel
    have HGK := Lib.hid hgk
    clear hgk
    go_wp2_with fail
    refine (take_lit x hx wr a' HR.out.1 [⟨#[97, 110, 100]⟩] (by decide)).mono ?_
    rintro e w4 ⟨s, a4, rfl, hs, h4, k4⟩
    have HS := Lib.hid hs
    have H4 : Hid (x.at w4 a4 ∧ x.kp w w4 ∧ w4.heap[w.heap.size]? = some (.cells #[.int .i64 0, .bool false, .int .i64 0, .int .i64 0, .string ⟨#[]⟩, .bool false, .bool false, .slice none 0 0] 110 (0, 0)) ∧ w4.heap[b5]? = some (.cells #[.int .i64 z.k, .bool z.b, .int .i64 z.m, .int .i64 z.s, .string z.t, .bool z.lo, .bool z.hi, .slice z.A z.n z.c] 110 (0, 0))) := Lib.hid ⟨h4, HR.out.2.1.trans k4, k4.blk HR.out.2.2.1 hne, k4.blk HR.out.2.2.2 hb5g⟩
    clear h4 k4 hs HR
    by_cases he : s.toList = []
    · have hh4 := H4.out.2.2.1
      have hx4 := H4.out.2.2.2
      obtain ⟨c0, c1, c2, c3, c4, c5, c6, c7, cf0, cf1, cf2, cf3, cf4, cf5, cf6, cf7⟩ := cells8 hh4
      obtain ⟨v0, v1, v2, v3, v4, v5, v6, v7, vf0, vf1, vf2, vf3, vf4, vf5, vf6, vf7⟩ := cells8 hx4
      clear hh4 hx4
      go_wp2_with fail
      have ha3 : a' ≤ a4 := by rcases HS.out with ⟨h, _⟩ | h <;> omega
      refine bodyPost_ret (results_cell_row rfl _ _ w.heap.size 110 _ (0, 0) _ rfl (put8 H4.out.2.2.1 _ _ _ _ _ _ _ _) Try.underlying110 rfl (by kernel_rfl)) rfl ?_
      have hat := H4.out.1
      have hkp := H4.out.2.1
      exact ⟨⟨⟨_, _, _, _, _, _, _, _, _, _⟩, rfl⟩, a4, by omega, (by repeat (with_reducible first | exact hat | refine Cx.at.other ?_ hne hge _ | refine Cx.at.alloc ?_ _ | refine Cx.at.drew ?_)), (by repeat (with_reducible first | exact hkp | refine Cx.kp.other ?_ (Nat.le_refl _) _ | refine Cx.kp.alloc ?_ _ | refine Cx.kp.drew ?_))⟩
    · have he2 : (s.toList == []) = false := by simpa using he
      have he3 : (s.toList != []) = true := by simpa using he
      have ha4 : a4 = a' + 1 := by
        rcases HS.out with ⟨_, h⟩ | h
        · rw [h] at he
          exact absurd empty_list he
        · exact h
      subst ha4
      clear he
      go_wp2_with fail
      have hx4 := H4.out.2.2.2
      obtain ⟨v0, v1, v2, v3, v4, v5, v6, v7, vf0, vf1, vf2, vf3, vf4, vf5, vf6, vf7⟩ := cells8 hx4
      clear hx4
      have hxd : w4.drew.heap[b5]? = _ := H4.out.2.2.2
      refine start_ (n := 6) (S := fun w' => w'.cell? ⟨b5, 0, none⟩ = some (.int .i64 z.k) ∧ w'.cell? ⟨b5, 1, none⟩ = some (.bool z.b) ∧ w'.cell? ⟨b5, 2, none⟩ = some (.int .i64 z.m) ∧ w'.cell? ⟨b5, 3, none⟩ = some (.int .i64 z.s) ∧ w'.cell? ⟨b5, 4, none⟩ = some (.string z.t) ∧ w'.cell? ⟨b5, 5, none⟩ = some (.bool z.lo) ∧ w'.cell? ⟨b5, 6, none⟩ = some (.bool z.hi) ∧ w'.cell? ⟨b5, 7, none⟩ = some (.slice z.A z.n z.c)) (ds := [5]) #[false, false, false, false, false, false] (by kernel_rfl) rfl rfl ⟨(cell_of hxd 0), (cell_of hxd 1), (cell_of hxd 2), (cell_of hxd 3), (cell_of hxd 4), (cell_of hxd 5), (cell_of hxd 6), (cell_of hxd 7)⟩ (fun hHeld => ?_)
      refine pure_ (i := 1) (N := some 14) (v := ?_) (a' := ?_) #[false, true, false, false, false, false] rfl rfl (by kernel_rfl) (fun _ _ _ h => h) (Or.inl ⟨by rfl, ?_⟩) ?_ ?_
      rotate_left
      · intro w'
        go_simp
        with_reducible rfl
      rotate_left
      · simp only [Act.put, List.setIfInBounds_toArray, List.set_cons_zero, List.set_cons_succ, i64_w, i32_w]
        rfl
      refine pure_ (i := 2) (N := some 15) (v := ?_) (a' := ?_) #[false, true, true, false, false, false] rfl rfl (by kernel_rfl) (fun _ _ _ h => h) (Or.inl ⟨by rfl, ?_⟩) ?_ ?_
      rotate_left
      · intro w'
        go_simp
        with_reducible rfl
      rotate_left
      · simp only [Act.put, List.setIfInBounds_toArray, List.set_cons_zero, List.set_cons_succ, i64_w, i32_w]
        rfl
      refine take_ (i := 0) (N := some 13) (v := ?_) (a' := ?_) #[true, true, true, false, false, false] rfl rfl (by kernel_rfl) (fun _ _ _ h => h) (Or.inl ⟨by rfl, ?_⟩) hHeld ?_ ?_
      rotate_left
      · rintro w' ⟨s0, s1, s2, s3, s4, s5, s6, s7⟩
        go_simp
        with_reducible rfl
      rotate_left
      · simp only [Act.put, List.setIfInBounds_toArray, List.set_cons_zero, List.set_cons_succ, i64_w, i32_w]
        rfl
      refine one_ (i := 3) (N := some 16) #[true, true, true, true, false, false] rfl rfl (by kernel_rfl) (by decide) (fun K hK => ?_)
      refine goes_ Try.func87 (by kernel_rfl) rfl #[.pointer (some ⟨x.g, 0, none⟩), .int .i64 d] (by rfl) rfl rfl (by simp only [List.map_toArray, List.map_cons, List.map_nil]; rfl) ?_
      with_reducible refine (HG.out.use w4.drew (a' + 1) H4.out.1.drew).mono ?_
      rintro e w5 ⟨⟨u, rfl⟩, a5, ha5, h5, k5⟩
      refine ⟨_, rfl, ?_⟩
      have H5 : Hid (x.at w5 a5 ∧ x.kp w4 w5 ∧ w5.heap[b5]? = some (.cells #[.int .i64 z.k, .bool z.b, .int .i64 z.m, .int .i64 z.s, .string z.t, .bool z.lo, .bool z.hi, .slice z.A z.n z.c] 110 (0, 0)) ∧ a' + 1 ≤ a5) := Lib.hid ⟨h5, (Cx.kp.refl x w4).drew.trans k5, k5.blk (w := w4.drew) H4.out.2.2.2 hb5g, ha5⟩
      clear h5 k5 ha5
      obtain ⟨q0, q1, q2, q3, q4, q5, q6, q7, qf0, qf1, qf2, qf3, qf4, qf5, qf6, qf7⟩ := cells8 H5.out.2.2.1
      refine hK.out _ _ ⟨q0, q1, q2, q3, q4, q5, q6, q7⟩ (fun hHeld => ?_)
      clear hK K
      refine norm_ (a' := ?_) ?_ ?_
      rotate_left
      · show Act.put _ (some 16) _ = _
        simp only [Act.put, List.setIfInBounds_toArray, List.set_cons_zero, List.set_cons_succ, i64_w, i32_w]
        rfl
      refine one_ (i := 4) (N := some 17) #[true, true, true, true, true, false] rfl rfl (by kernel_rfl) (by decide) (fun K hK => ?_)
      refine goes_ Try.func82 (by kernel_rfl) rfl #[.string ⟨#[97, 110, 100]⟩, .agg #[.int .i64 z.k, .bool z.b, .int .i64 z.m, .int .i64 z.s, .string z.t, .bool z.lo, .bool z.hi, .slice z.A z.n z.c], .agg #[.int .i64 u.k, .bool u.b, .int .i64 u.m, .int .i64 u.s, .string u.t, .bool u.lo, .bool u.hi, .slice u.A u.n u.c]] (by rfl) rfl rfl (by simp only [List.map_toArray, List.map_cons, List.map_nil]; rfl) ?_
      with_reducible refine (bin_any ⟨#[97, 110, 100]⟩ z u w5).mono ?_
      rintro e w6 ⟨⟨v, rfl⟩, hb6⟩
      refine ⟨_, rfl, ?_⟩
      have H6 : Hid (x.at w6 a5 ∧ x.kp w4 w6 ∧ w6.heap[b5]? = some (.cells #[.int .i64 z.k, .bool z.b, .int .i64 z.m, .int .i64 z.s, .string z.t, .bool z.lo, .bool z.hi, .slice z.A z.n z.c] 110 (0, 0))) := Lib.hid ⟨H5.out.1.below hb6, H5.out.2.1.below hb6, (hb6.block b5 (blk_in H5.out.2.2.1)).trans H5.out.2.2.1⟩
      clear hb6
      obtain ⟨r0, r1, r2, r3, r4, r5, r6, r7, rf0, rf1, rf2, rf3, rf4, rf5, rf6, rf7⟩ := cells8 H6.out.2.2
      refine hK.out _ _ ⟨r0, r1, r2, r3, r4, r5, r6, r7⟩ (fun hHeld => ?_)
      clear hK K
      refine norm_ (a' := ?_) ?_ ?_
      rotate_left
      · show Act.put _ (some 17) _ = _
        simp only [Act.put, List.setIfInBounds_toArray, List.set_cons_zero, List.set_cons_succ, i64_w, i32_w]
        rfl
      refine last_ (i := 5) (N := none) #[true, true, true, true, true, true] rfl rfl (by kernel_rfl) (by decide) (fun K hK => ?_)
      refine skip_ (w1 := ?_) (by rfl) rfl ?_ ?_
      rotate_left
      · go_simp
        rfl
      refine hK.out _ _ ?_
      clear hK K
      refine done_ (by kernel_rfl) ?_

      have H7 : Hid (x.at w6 a5 ∧ x.kp w w6 ∧ w6.heap[w.heap.size]? = some (.cells #[.int .i64 0, .bool false, .int .i64 0, .int .i64 0, .string ⟨#[]⟩, .bool false, .bool false, .slice none 0 0] 110 (0, 0))) := Lib.hid ⟨H6.out.1, H4.out.2.1.trans H6.out.2.1, H6.out.2.1.blk H4.out.2.2.1 hne⟩
      go_wp2_with fail
      go_roundg (x.l - a5)
      case rel =>
        have hat := H7.out.1
        have hkp := H7.out.2.1
        have hge5 : x.w0.heap.size ≤ b5 := Nat.le_trans hge (Nat.le_of_lt hb5w)
        have hl5 := hat.le
        exact ⟨a5, by have := H5.out.2.2.2; omega, by omega, v, Lib.hid ⟨(by repeat (with_reducible first | exact hat | refine Cx.at.other ?_ hb5g hge5 _ | refine Cx.at.alloc ?_ _ | refine Cx.at.drew ?_)), (by repeat (with_reducible first | exact hkp | refine Cx.kp.other ?_ (Nat.le_of_lt hb5w) _ | refine Cx.kp.alloc ?_ _ | refine Cx.kp.drew ?_)), (far8 (by omega) _ _ _ _ _ _ _ _).trans H7.out.2.2, put8 H6.out.2.2 _ _ _ _ _ _ _ _⟩⟩
      case measure => have := HGK.out; have := H5.out.2.2.2; have := H7.out.1.le; omega
set_option maxHeartbeats 2000000 in
theorem expr_any (x : Cx) (hx : x.ok) (d : Int) (hG : d ≤ 8 → x.PE 80 d) : x.PE 70 d := by
  intro w a h
  have hne : w.heap.size ≠ x.g := by have := h.lt; omega
  have hge : x.w0.heap.size ≤ w.heap.size := h.old.size
  obtain ⟨W1, hW1⟩ : ∃ W1, w.alloc (.cells #[.int .i64 0, .bool false, .int .i64 0, .int .i64 0, .string ⟨#[]⟩, .bool false, .bool false, .slice none 0 0] 110) = W1 := ⟨_, rfl⟩
  have H1 : Hid (x.at W1 a ∧ x.kp w W1 ∧ W1.heap[w.heap.size]? = some (.cells #[.int .i64 0, .bool false, .int .i64 0, .int .i64 0, .string ⟨#[]⟩, .bool false, .bool false, .slice none 0 0] 110 (0, 0))) := Lib.hid (by rw [← hW1]; exact ⟨h.alloc _, (Cx.kp.refl _ _).alloc _, heap_alloc_new w _⟩)
  have hlt1 : w.heap.size < W1.heap.size := (Array.getElem?_eq_some_iff.1 H1.out.2.2).1
  clear h
  have HG0 := Lib.hid hG
  clear hG
  go_enter Try.func70, Try.ntmps70
  go_wp2_with fail
  refine (deep_any x hx W1 a d H1.out.1).mono ?_
  rintro e w1 ⟨⟨b, rfl, hb⟩, h1, k1⟩
  have H0 : Hid (x.at w1 _ ∧ x.kp w w1 ∧ w1.heap[w.heap.size]? = some (.cells #[.int .i64 0, .bool false, .int .i64 0, .int .i64 0, .string ⟨#[]⟩, .bool false, .bool false, .slice none 0 0] 110 (0, 0))) := Lib.hid ⟨h1, H1.out.2.1.trans k1, k1.blk H1.out.2.2 hne⟩
  clear h1 k1
  by_cases hd : d ≤ 8
  rotate_left
  · have hbt := hb (by omega)
    subst hbt
    have hh2 := H0.out.2.2
    obtain ⟨c0, c1, c2, c3, c4, c5, c6, c7, cf0, cf1, cf2, cf3, cf4, cf5, cf6, cf7⟩ := cells8 hh2
    clear hh2
    go_wp2_with fail
    refine bodyPost_ret (results_cell_row rfl _ _ w.heap.size 110 _ (0, 0) _ rfl (put8 H0.out.2.2 _ _ _ _ _ _ _ _) Try.underlying110 rfl (by kernel_rfl)) rfl ?_
    have hat := H0.out.1
    have hkp := H0.out.2.1
    exact ⟨⟨⟨_, _, _, _, _, _, _, _, _, _⟩, rfl⟩, a, Nat.le_refl _, (by repeat (with_reducible first | exact hat | refine Cx.at.other ?_ hne hge _ | refine Cx.at.alloc ?_ _ | refine Cx.at.drew ?_)), (by repeat (with_reducible first | exact hkp | refine Cx.kp.other ?_ (Nat.le_refl _) _ | refine Cx.kp.alloc ?_ _ | refine Cx.kp.drew ?_))⟩
  cases b
  rotate_left
  · have hh2 := H0.out.2.2
    obtain ⟨c0, c1, c2, c3, c4, c5, c6, c7, cf0, cf1, cf2, cf3, cf4, cf5, cf6, cf7⟩ := cells8 hh2
    clear hh2
    go_wp2_with fail
    refine bodyPost_ret (results_cell_row rfl _ _ w.heap.size 110 _ (0, 0) _ rfl (put8 H0.out.2.2 _ _ _ _ _ _ _ _) Try.underlying110 rfl (by kernel_rfl)) rfl ?_
    have hat := H0.out.1
    have hkp := H0.out.2.1
    exact ⟨⟨⟨_, _, _, _, _, _, _, _, _, _⟩, rfl⟩, a, Nat.le_refl _, (by repeat (with_reducible first | exact hat | refine Cx.at.other ?_ hne hge _ | refine Cx.at.alloc ?_ _ | refine Cx.at.drew ?_)), (by repeat (with_reducible first | exact hkp | refine Cx.kp.other ?_ (Nat.le_refl _) _ | refine Cx.kp.alloc ?_ _ | refine Cx.kp.drew ?_))⟩
  clear hb
  have HG := Lib.hid (HG0.out hd)
  clear HG0
  go_wp2_with fail
  refine (HG.out w1 a H0.out.1).mono ?_
  rintro e w2 ⟨⟨y, rfl⟩, a2, ha2, h2, k2⟩
  have H2 : Hid (x.at w2 _ ∧ x.kp w w2 ∧ w2.heap[w.heap.size]? = some (.cells #[.int .i64 0, .bool false, .int .i64 0, .int .i64 0, .string ⟨#[]⟩, .bool false, .bool false, .slice none 0 0] 110 (0, 0))) := Lib.hid ⟨h2, H0.out.2.1.trans k2, k2.blk H0.out.2.2 hne⟩
  clear h2 k2
  go_wp2_with fail
  obtain ⟨b5, hb5⟩ : ∃ b5, w2.heap.size = b5 := ⟨_, rfl⟩
  have hb5g : b5 ≠ x.g := by have := H2.out.1.lt; omega
  have hb5w : w.heap.size < b5 := by have := blk_in H2.out.2.2; omega
  have H3 : Hid (x.at (w2.alloc (.cells #[.int .i64 y.k, .bool y.b, .int .i64 y.m, .int .i64 y.s, .string y.t, .bool y.lo, .bool y.hi, .slice y.A y.n y.c] 110)) a2 ∧ x.kp w (w2.alloc (.cells #[.int .i64 y.k, .bool y.b, .int .i64 y.m, .int .i64 y.s, .string y.t, .bool y.lo, .bool y.hi, .slice y.A y.n y.c] 110)) ∧ (w2.alloc (.cells #[.int .i64 y.k, .bool y.b, .int .i64 y.m, .int .i64 y.s, .string y.t, .bool y.lo, .bool y.hi, .slice y.A y.n y.c] 110)).heap[w.heap.size]? = some (.cells #[.int .i64 0, .bool false, .int .i64 0, .int .i64 0, .string ⟨#[]⟩, .bool false, .bool false, .slice none 0 0] 110 (0, 0)) ∧ (w2.alloc (.cells #[.int .i64 y.k, .bool y.b, .int .i64 y.m, .int .i64 y.s, .string y.t, .bool y.lo, .bool y.hi, .slice y.A y.n y.c] 110)).heap[b5]? = some (.cells #[.int .i64 y.k, .bool y.b, .int .i64 y.m, .int .i64 y.s, .string y.t, .bool y.lo, .bool y.hi, .slice y.A y.n y.c] 110 (0, 0))) := Lib.hid ⟨H2.out.1.alloc _, H2.out.2.1.alloc _, alloc_blk H2.out.2.2, by rw [← hb5]; exact heap_alloc_new w2 _⟩
  try rw [hb5]
  generalize w2.alloc (.cells #[.int .i64 y.k, .bool y.b, .int .i64 y.m, .int .i64 y.s, .string y.t, .bool y.lo, .bool y.hi, .slice y.A y.n y.c] 110) = w3 at H3 ⊢
  clear H2 hb5 hW1 hlt1
  go_loopg [] x.l (fun gk wr => ∃ a', a ≤ a' ∧ x.l ≤ gk + a' ∧ ∃ y : Ex, Hid (x.at wr a' ∧ x.kp w wr ∧ wr.heap[w.heap.size]? = some (.cells #[.int .i64 0, .bool false, .int .i64 0, .int .i64 0, .string ⟨#[]⟩, .bool false, .bool false, .slice none 0 0] 110 (0, 0)) ∧ wr.heap[b5]? = some (.cells #[.int .i64 y.k, .bool y.b, .int .i64 y.m, .int .i64 y.s, .string y.t, .bool y.lo, .bool y.hi, .slice y.A y.n y.c] 110 (0, 0))))
  case atStart => exact ⟨a2, ha2, by omega, y, H3⟩
  case round =>
    clear H3
    obtain ⟨a', ha', hgk, z, HR⟩ := hrel
    have HGK := Lib.hid hgk
    clear hgk
    go_wp2_with fail
    refine (take_lit x hx wr a' HR.out.1 [⟨#[111, 114]⟩] (by decide)).mono ?_
    rintro e w4 ⟨s, a4, rfl, hs, h4, k4⟩
    have HS := Lib.hid hs
    have H4 : Hid (x.at w4 a4 ∧ x.kp w w4 ∧ w4.heap[w.heap.size]? = some (.cells #[.int .i64 0, .bool false, .int .i64 0, .int .i64 0, .string ⟨#[]⟩, .bool false, .bool false, .slice none 0 0] 110 (0, 0)) ∧ w4.heap[b5]? = some (.cells #[.int .i64 z.k, .bool z.b, .int .i64 z.m, .int .i64 z.s, .string z.t, .bool z.lo, .bool z.hi, .slice z.A z.n z.c] 110 (0, 0))) := Lib.hid ⟨h4, HR.out.2.1.trans k4, k4.blk HR.out.2.2.1 hne, k4.blk HR.out.2.2.2 hb5g⟩
    clear h4 k4 hs HR
    by_cases he : s.toList = []
    · have hh4 := H4.out.2.2.1
      have hx4 := H4.out.2.2.2
      obtain ⟨c0, c1, c2, c3, c4, c5, c6, c7, cf0, cf1, cf2, cf3, cf4, cf5, cf6, cf7⟩ := cells8 hh4
      obtain ⟨v0, v1, v2, v3, v4, v5, v6, v7, vf0, vf1, vf2, vf3, vf4, vf5, vf6, vf7⟩ := cells8 hx4
      clear hh4 hx4
      go_wp2_with fail
      have ha3 : a' ≤ a4 := by rcases HS.out with ⟨h, _⟩ | h <;> omega
      refine bodyPost_ret (results_cell_row rfl _ _ w.heap.size 110 _ (0, 0) _ rfl (put8 H4.out.2.2.1 _ _ _ _ _ _ _ _) Try.underlying110 rfl (by kernel_rfl)) rfl ?_
      have hat := H4.out.1
      have hkp := H4.out.2.1
      exact ⟨⟨⟨_, _, _, _, _, _, _, _, _, _⟩, rfl⟩, a4, by omega, (by repeat (with_reducible first | exact hat | refine Cx.at.other ?_ hne hge _ | refine Cx.at.alloc ?_ _ | refine Cx.at.drew ?_)), (by repeat (with_reducible first | exact hkp | refine Cx.kp.other ?_ (Nat.le_refl _) _ | refine Cx.kp.alloc ?_ _ | refine Cx.kp.drew ?_))⟩
    · have he2 : (s.toList == []) = false := by simpa using he
      have he3 : (s.toList != []) = true := by simpa using he
      have ha4 : a4 = a' + 1 := by
        rcases HS.out with ⟨_, h⟩ | h
        · rw [h] at he
          exact absurd empty_list he
        · exact h
      subst ha4
      clear he
      go_wp2_with fail
      have hx4 := H4.out.2.2.2
      obtain ⟨v0, v1, v2, v3, v4, v5, v6, v7, vf0, vf1, vf2, vf3, vf4, vf5, vf6, vf7⟩ := cells8 hx4
      clear hx4
      have hxd : w4.drew.heap[b5]? = _ := H4.out.2.2.2
      refine start_ (n := 6) (S := fun w' => w'.cell? ⟨b5, 0, none⟩ = some (.int .i64 z.k) ∧ w'.cell? ⟨b5, 1, none⟩ = some (.bool z.b) ∧ w'.cell? ⟨b5, 2, none⟩ = some (.int .i64 z.m) ∧ w'.cell? ⟨b5, 3, none⟩ = some (.int .i64 z.s) ∧ w'.cell? ⟨b5, 4, none⟩ = some (.string z.t) ∧ w'.cell? ⟨b5, 5, none⟩ = some (.bool z.lo) ∧ w'.cell? ⟨b5, 6, none⟩ = some (.bool z.hi) ∧ w'.cell? ⟨b5, 7, none⟩ = some (.slice z.A z.n z.c)) (ds := [5]) #[false, false, false, false, false, false] (by kernel_rfl) rfl rfl ⟨(cell_of hxd 0), (cell_of hxd 1), (cell_of hxd 2), (cell_of hxd 3), (cell_of hxd 4), (cell_of hxd 5), (cell_of hxd 6), (cell_of hxd 7)⟩ (fun hHeld => ?_)
      refine pure_ (i := 1) (N := some 18) (v := ?_) (a' := ?_) #[false, true, false, false, false, false] rfl rfl (by kernel_rfl) (fun _ _ _ h => h) (Or.inl ⟨by rfl, ?_⟩) ?_ ?_
      rotate_left
      · intro w'
        go_simp
        with_reducible rfl
      rotate_left
      · simp only [Act.put, List.setIfInBounds_toArray, List.set_cons_zero, List.set_cons_succ, i64_w, i32_w]
        rfl
      refine pure_ (i := 2) (N := some 19) (v := ?_) (a' := ?_) #[false, true, true, false, false, false] rfl rfl (by kernel_rfl) (fun _ _ _ h => h) (Or.inl ⟨by rfl, ?_⟩) ?_ ?_
      rotate_left
      · intro w'
        go_simp
        with_reducible rfl
      rotate_left
      · simp only [Act.put, List.setIfInBounds_toArray, List.set_cons_zero, List.set_cons_succ, i64_w, i32_w]
        rfl
      refine take_ (i := 0) (N := some 17) (v := ?_) (a' := ?_) #[true, true, true, false, false, false] rfl rfl (by kernel_rfl) (fun _ _ _ h => h) (Or.inl ⟨by rfl, ?_⟩) hHeld ?_ ?_
      rotate_left
      · rintro w' ⟨s0, s1, s2, s3, s4, s5, s6, s7⟩
        go_simp
        with_reducible rfl
      rotate_left
      · simp only [Act.put, List.setIfInBounds_toArray, List.set_cons_zero, List.set_cons_succ, i64_w, i32_w]
        rfl
      refine one_ (i := 3) (N := some 20) #[true, true, true, true, false, false] rfl rfl (by kernel_rfl) (by decide) (fun K hK => ?_)
      refine goes_ Try.func80 (by kernel_rfl) rfl #[.pointer (some ⟨x.g, 0, none⟩), .int .i64 d] (by rfl) rfl rfl (by simp only [List.map_toArray, List.map_cons, List.map_nil]; rfl) ?_
      with_reducible refine (HG.out.use w4.drew (a' + 1) H4.out.1.drew).mono ?_
      rintro e w5 ⟨⟨u, rfl⟩, a5, ha5, h5, k5⟩
      refine ⟨_, rfl, ?_⟩
      have H5 : Hid (x.at w5 a5 ∧ x.kp w4 w5 ∧ w5.heap[b5]? = some (.cells #[.int .i64 z.k, .bool z.b, .int .i64 z.m, .int .i64 z.s, .string z.t, .bool z.lo, .bool z.hi, .slice z.A z.n z.c] 110 (0, 0)) ∧ a' + 1 ≤ a5) := Lib.hid ⟨h5, (Cx.kp.refl x w4).drew.trans k5, k5.blk (w := w4.drew) H4.out.2.2.2 hb5g, ha5⟩
      clear h5 k5 ha5
      obtain ⟨q0, q1, q2, q3, q4, q5, q6, q7, qf0, qf1, qf2, qf3, qf4, qf5, qf6, qf7⟩ := cells8 H5.out.2.2.1
      refine hK.out _ _ ⟨q0, q1, q2, q3, q4, q5, q6, q7⟩ (fun hHeld => ?_)
      clear hK K
      refine norm_ (a' := ?_) ?_ ?_
      rotate_left
      · show Act.put _ (some 20) _ = _
        simp only [Act.put, List.setIfInBounds_toArray, List.set_cons_zero, List.set_cons_succ, i64_w, i32_w]
        rfl
      refine one_ (i := 4) (N := some 21) #[true, true, true, true, true, false] rfl rfl (by kernel_rfl) (by decide) (fun K hK => ?_)
      refine goes_ Try.func82 (by kernel_rfl) rfl #[.string ⟨#[111, 114]⟩, .agg #[.int .i64 z.k, .bool z.b, .int .i64 z.m, .int .i64 z.s, .string z.t, .bool z.lo, .bool z.hi, .slice z.A z.n z.c], .agg #[.int .i64 u.k, .bool u.b, .int .i64 u.m, .int .i64 u.s, .string u.t, .bool u.lo, .bool u.hi, .slice u.A u.n u.c]] (by rfl) rfl rfl (by simp only [List.map_toArray, List.map_cons, List.map_nil]; rfl) ?_
      with_reducible refine (bin_any ⟨#[111, 114]⟩ z u w5).mono ?_
      rintro e w6 ⟨⟨v, rfl⟩, hb6⟩
      refine ⟨_, rfl, ?_⟩
      have H6 : Hid (x.at w6 a5 ∧ x.kp w4 w6 ∧ w6.heap[b5]? = some (.cells #[.int .i64 z.k, .bool z.b, .int .i64 z.m, .int .i64 z.s, .string z.t, .bool z.lo, .bool z.hi, .slice z.A z.n z.c] 110 (0, 0))) := Lib.hid ⟨H5.out.1.below hb6, H5.out.2.1.below hb6, (hb6.block b5 (blk_in H5.out.2.2.1)).trans H5.out.2.2.1⟩
      clear hb6
      obtain ⟨r0, r1, r2, r3, r4, r5, r6, r7, rf0, rf1, rf2, rf3, rf4, rf5, rf6, rf7⟩ := cells8 H6.out.2.2
      refine hK.out _ _ ⟨r0, r1, r2, r3, r4, r5, r6, r7⟩ (fun hHeld => ?_)
      clear hK K
      refine norm_ (a' := ?_) ?_ ?_
      rotate_left
      · show Act.put _ (some 21) _ = _
        simp only [Act.put, List.setIfInBounds_toArray, List.set_cons_zero, List.set_cons_succ, i64_w, i32_w]
        rfl
      refine last_ (i := 5) (N := none) #[true, true, true, true, true, true] rfl rfl (by kernel_rfl) (by decide) (fun K hK => ?_)
      refine skip_ (w1 := ?_) (by rfl) rfl ?_ ?_
      rotate_left
      · go_simp
        rfl
      refine hK.out _ _ ?_
      clear hK K
      refine done_ (by kernel_rfl) ?_

      have H7 : Hid (x.at w6 a5 ∧ x.kp w w6 ∧ w6.heap[w.heap.size]? = some (.cells #[.int .i64 0, .bool false, .int .i64 0, .int .i64 0, .string ⟨#[]⟩, .bool false, .bool false, .slice none 0 0] 110 (0, 0))) := Lib.hid ⟨H6.out.1, H4.out.2.1.trans H6.out.2.1, H6.out.2.1.blk H4.out.2.2.1 hne⟩
      go_wp2_with fail
      go_roundg (x.l - a5)
      case rel =>
        have hat := H7.out.1
        have hkp := H7.out.2.1
        have hge5 : x.w0.heap.size ≤ b5 := Nat.le_trans hge (Nat.le_of_lt hb5w)
        have hl5 := hat.le
        exact ⟨a5, by have := H5.out.2.2.2; omega, by omega, v, Lib.hid ⟨(by repeat (with_reducible first | exact hat | refine Cx.at.other ?_ hb5g hge5 _ | refine Cx.at.alloc ?_ _ | refine Cx.at.drew ?_)), (by repeat (with_reducible first | exact hkp | refine Cx.kp.other ?_ (Nat.le_of_lt hb5w) _ | refine Cx.kp.alloc ?_ _ | refine Cx.kp.drew ?_)), (far8 (by omega) _ _ _ _ _ _ _ _).trans H7.out.2.2, put8 H6.out.2.2 _ _ _ _ _ _ _ _⟩⟩
      case measure => have := HGK.out; have := H5.out.2.2.2; have := H7.out.1.le; omega
set_option maxHeartbeats 4000000 in
theorem cmp4_any (x : Cx) (hx : x.ok) (d : Int) (hd0 : 0 ≤ d) (hd8 : d ≤ 8) (hG : x.PE 92 d) (hE : x.PE 70 (d + 1)) : x.PE 87 d := by
  intro w a h
  have hne : w.heap.size ≠ x.g := by have := h.lt; omega
  have hge : x.w0.heap.size ≤ w.heap.size := h.old.size
  obtain ⟨W1, hW1⟩ : ∃ W1, w.alloc (.cells #[.int .i64 0, .bool false, .int .i64 0, .int .i64 0, .string ⟨#[]⟩, .bool false, .bool false, .slice none 0 0] 110) = W1 := ⟨_, rfl⟩
  have H1 : Hid (x.at W1 a ∧ x.kp w W1 ∧ W1.heap[w.heap.size]? = some (.cells #[.int .i64 0, .bool false, .int .i64 0, .int .i64 0, .string ⟨#[]⟩, .bool false, .bool false, .slice none 0 0] 110 (0, 0))) := Lib.hid (by rw [← hW1]; exact ⟨h.alloc _, (Cx.kp.refl _ _).alloc _, heap_alloc_new w _⟩)
  have hlt1 : w.heap.size < W1.heap.size := (Array.getElem?_eq_some_iff.1 H1.out.2.2).1
  clear h
  have HG := Lib.hid hG
  have HE := Lib.hid hE
  clear hG hE
  go_enter Try.func87, Try.ntmps87
  go_wp2_with fail
  refine (HG.out.use W1 a H1.out.1).mono ?_
  rintro e w2 ⟨⟨y, rfl⟩, a2, la2, h11, k11⟩
  have H12 : Hid (x.at w2 a2 ∧ x.kp w w2 ∧ w2.heap[w.heap.size]? = some (.cells #[.int .i64 0, .bool false, .int .i64 0, .int .i64 0, .string ⟨#[]⟩, .bool false, .bool false, .slice none 0 0] 110 (0, 0))) := Lib.hid ⟨h11, H1.out.2.1.trans k11, k11.blk H1.out.2.2 hne⟩
  clear h11 k11
  go_upto_region 2 with fail
  obtain ⟨b5, hb5⟩ : ∃ b, w2.heap.size = b := ⟨_, rfl⟩
  have hb5g : b5 ≠ x.g := by have := H12.out.1.lt; omega
  have hb5w : w.heap.size < b5 := by have := blk_in H12.out.2.2; omega
  have H13 : Hid (x.at (w2.alloc (.cells #[.int .i64 y.k, .bool y.b, .int .i64 y.m, .int .i64 y.s, .string y.t, .bool y.lo, .bool y.hi, .slice y.A y.n y.c] 110)) a2 ∧ x.kp w (w2.alloc (.cells #[.int .i64 y.k, .bool y.b, .int .i64 y.m, .int .i64 y.s, .string y.t, .bool y.lo, .bool y.hi, .slice y.A y.n y.c] 110)) ∧ (w2.alloc (.cells #[.int .i64 y.k, .bool y.b, .int .i64 y.m, .int .i64 y.s, .string y.t, .bool y.lo, .bool y.hi, .slice y.A y.n y.c] 110)).heap[w.heap.size]? = some (.cells #[.int .i64 0, .bool false, .int .i64 0, .int .i64 0, .string ⟨#[]⟩, .bool false, .bool false, .slice none 0 0] 110 (0, 0)) ∧ (w2.alloc (.cells #[.int .i64 y.k, .bool y.b, .int .i64 y.m, .int .i64 y.s, .string y.t, .bool y.lo, .bool y.hi, .slice y.A y.n y.c] 110)).heap[b5]? = some (.cells #[.int .i64 y.k, .bool y.b, .int .i64 y.m, .int .i64 y.s, .string y.t, .bool y.lo, .bool y.hi, .slice y.A y.n y.c] 110 (0, 0))) := Lib.hid ⟨H12.out.1.alloc _, H12.out.2.1.alloc _, alloc_blk H12.out.2.2, by rw [← hb5]; exact heap_alloc_new w2 _⟩
  try rw [hb5]
  generalize w2.alloc (.cells #[.int .i64 y.k, .bool y.b, .int .i64 y.m, .int .i64 y.s, .string y.t, .bool y.lo, .bool y.hi, .slice y.A y.n y.c] 110) = w13n at H13 ⊢
  clear hb5
  clear hW1 hlt1
  go_wp2_with fail
  refine (take_lit x hx w13n a2 H13.out.1 [⟨#[60]⟩, ⟨#[60, 61]⟩, ⟨#[62]⟩, ⟨#[62, 61]⟩, ⟨#[61]⟩, ⟨#[33, 61]⟩] (by decide)).mono ?_
  rintro e w4 ⟨s, a4, rfl, hs14, h14, k14⟩
  have la4 : a2 ≤ a4 := by rcases hs14 with ⟨h, _⟩ | h <;> omega
  have HSs := Lib.hid hs14
  clear hs14
  have H15 : Hid (x.at w4 a4 ∧ x.kp w w4 ∧ w4.heap[w.heap.size]? = some (.cells #[.int .i64 0, .bool false, .int .i64 0, .int .i64 0, .string ⟨#[]⟩, .bool false, .bool false, .slice none 0 0] 110 (0, 0)) ∧ w4.heap[b5]? = some (.cells #[.int .i64 y.k, .bool y.b, .int .i64 y.m, .int .i64 y.s, .string y.t, .bool y.lo, .bool y.hi, .slice y.A y.n y.c] 110 (0, 0))) := Lib.hid ⟨h14, H13.out.2.1.trans k14, k14.blk H13.out.2.2.1 hne, k14.blk H13.out.2.2.2 hb5g⟩
  clear h14 k14
  by_cases hes : s.toList = []
  · go_wp2_with fail
    refine (take_lit x hx w4 a4 H15.out.1 [⟨#[105, 110]⟩] (by decide)).mono ?_
    rintro e w5 ⟨t, a5, rfl, hs16, h16, k16⟩
    have la5 : a4 ≤ a5 := by rcases hs16 with ⟨h, _⟩ | h <;> omega
    have HSt := Lib.hid hs16
    clear hs16
    have H17 : Hid (x.at w5 a5 ∧ x.kp w w5 ∧ w5.heap[w.heap.size]? = some (.cells #[.int .i64 0, .bool false, .int .i64 0, .int .i64 0, .string ⟨#[]⟩, .bool false, .bool false, .slice none 0 0] 110 (0, 0)) ∧ w5.heap[b5]? = some (.cells #[.int .i64 y.k, .bool y.b, .int .i64 y.m, .int .i64 y.s, .string y.t, .bool y.lo, .bool y.hi, .slice y.A y.n y.c] 110 (0, 0))) := Lib.hid ⟨h16, H15.out.2.1.trans k16, k16.blk H15.out.2.2.1 hne, k16.blk H15.out.2.2.2 hb5g⟩
    clear h16 k16
    by_cases het : t.toList = []
    · skip
      have hhc := H17.out.2.2.1
      obtain ⟨c0, c1, c2, c3, c4, c5, c6, c7, cf0, cf1, cf2, cf3, cf4, cf5, cf6, cf7⟩ := cells8 hhc
      clear hhc
      have hhv := H17.out.2.2.2
      obtain ⟨v0, v1, v2, v3, v4, v5, v6, v7, vf0, vf1, vf2, vf3, vf4, vf5, vf6, vf7⟩ := cells8 hhv
      clear hhv
      go_wp2_with fail
      refine bodyPost_ret (results_cell_row rfl _ _ w.heap.size 110 _ (0, 0) _ rfl (put8 H17.out.2.2.1 _ _ _ _ _ _ _ _) Try.underlying110 rfl (by kernel_rfl)) rfl ?_
      have hat := H17.out.1
      have hkp := H17.out.2.1
      exact ⟨⟨⟨_, _, _, _, _, _, _, _, _, _⟩, rfl⟩, a5, by omega, (by repeat (with_reducible first | exact hat | refine Cx.at.other ?_ hne hge _ | refine Cx.at.alloc ?_ _ | refine Cx.at.drew ?_)), (by repeat (with_reducible first | exact hkp | refine Cx.kp.other ?_ (Nat.le_refl _) _ | refine Cx.kp.alloc ?_ _ | refine Cx.kp.drew ?_))⟩
    · skip
      have hft : (t.toList == []) = false := by simpa using het
      have hgt : (t.toList != []) = true := by simpa using het
      clear het
      go_wp2_with fail
      refine (must_lit x hx w5 a5 H17.out.1 [⟨#[91]⟩, ⟨#[40]⟩] (by decide)).mono ?_
      rintro e w6 ⟨u, a6, rfl, hs18, h18, k18⟩
      have la6 : a5 ≤ a6 := by rcases hs18 with ⟨h, _⟩ | h <;> omega
      have HSu := Lib.hid hs18
      clear hs18
      have H19 : Hid (x.at w6 a6 ∧ x.kp w w6 ∧ w6.heap[w.heap.size]? = some (.cells #[.int .i64 0, .bool false, .int .i64 0, .int .i64 0, .string ⟨#[]⟩, .bool false, .bool false, .slice none 0 0] 110 (0, 0)) ∧ w6.heap[b5]? = some (.cells #[.int .i64 y.k, .bool y.b, .int .i64 y.m, .int .i64 y.s, .string y.t, .bool y.lo, .bool y.hi, .slice y.A y.n y.c] 110 (0, 0))) := Lib.hid ⟨h18, H17.out.2.1.trans k18, k18.blk H17.out.2.2.1 hne, k18.blk H17.out.2.2.2 hb5g⟩
      clear h18 k18
      go_wp2_with fail
      refine (HE.out.use w6 a6 H19.out.1).mono ?_
      rintro e w7 ⟨⟨y8, rfl⟩, a7, la7, h20, k20⟩
      have H21 : Hid (x.at w7 a7 ∧ x.kp w w7 ∧ w7.heap[w.heap.size]? = some (.cells #[.int .i64 0, .bool false, .int .i64 0, .int .i64 0, .string ⟨#[]⟩, .bool false, .bool false, .slice none 0 0] 110 (0, 0)) ∧ w7.heap[b5]? = some (.cells #[.int .i64 y.k, .bool y.b, .int .i64 y.m, .int .i64 y.s, .string y.t, .bool y.lo, .bool y.hi, .slice y.A y.n y.c] 110 (0, 0))) := Lib.hid ⟨h20, H19.out.2.1.trans k20, k20.blk H19.out.2.2.1 hne, k20.blk H19.out.2.2.2 hb5g⟩
      clear h20 k20
      go_upto_region 9 with fail
      obtain ⟨b8, hb8⟩ : ∃ b, w7.heap.size = b := ⟨_, rfl⟩
      have hb8g : b8 ≠ x.g := by have := H21.out.1.lt; omega
      have hb8w : w.heap.size < b8 := by have := blk_in H21.out.2.2.1; omega
      have H22 : Hid (x.at (w7.alloc (.cells #[.int .i64 y8.k, .bool y8.b, .int .i64 y8.m, .int .i64 y8.s, .string y8.t, .bool y8.lo, .bool y8.hi, .slice y8.A y8.n y8.c] 110)) a7 ∧ x.kp w (w7.alloc (.cells #[.int .i64 y8.k, .bool y8.b, .int .i64 y8.m, .int .i64 y8.s, .string y8.t, .bool y8.lo, .bool y8.hi, .slice y8.A y8.n y8.c] 110)) ∧ (w7.alloc (.cells #[.int .i64 y8.k, .bool y8.b, .int .i64 y8.m, .int .i64 y8.s, .string y8.t, .bool y8.lo, .bool y8.hi, .slice y8.A y8.n y8.c] 110)).heap[w.heap.size]? = some (.cells #[.int .i64 0, .bool false, .int .i64 0, .int .i64 0, .string ⟨#[]⟩, .bool false, .bool false, .slice none 0 0] 110 (0, 0)) ∧ (w7.alloc (.cells #[.int .i64 y8.k, .bool y8.b, .int .i64 y8.m, .int .i64 y8.s, .string y8.t, .bool y8.lo, .bool y8.hi, .slice y8.A y8.n y8.c] 110)).heap[b5]? = some (.cells #[.int .i64 y.k, .bool y.b, .int .i64 y.m, .int .i64 y.s, .string y.t, .bool y.lo, .bool y.hi, .slice y.A y.n y.c] 110 (0, 0)) ∧ (w7.alloc (.cells #[.int .i64 y8.k, .bool y8.b, .int .i64 y8.m, .int .i64 y8.s, .string y8.t, .bool y8.lo, .bool y8.hi, .slice y8.A y8.n y8.c] 110)).heap[b8]? = some (.cells #[.int .i64 y8.k, .bool y8.b, .int .i64 y8.m, .int .i64 y8.s, .string y8.t, .bool y8.lo, .bool y8.hi, .slice y8.A y8.n y8.c] 110 (0, 0))) := Lib.hid ⟨H21.out.1.alloc _, H21.out.2.1.alloc _, alloc_blk H21.out.2.2.1, alloc_blk H21.out.2.2.2, by rw [← hb8]; exact heap_alloc_new w7 _⟩
      try rw [hb8]
      generalize w7.alloc (.cells #[.int .i64 y8.k, .bool y8.b, .int .i64 y8.m, .int .i64 y8.s, .string y8.t, .bool y8.lo, .bool y8.hi, .slice y8.A y8.n y8.c] 110) = w22n at H22 ⊢
      clear hb8
      go_wp2_with fail
      refine (must_lit x hx w22n a7 H22.out.1 [⟨#[46, 46]⟩] (by decide)).mono ?_
      rintro e w8 ⟨v, a8, rfl, hs23, h23, k23⟩
      have la8 : a7 ≤ a8 := by rcases hs23 with ⟨h, _⟩ | h <;> omega
      have HSv := Lib.hid hs23
      clear hs23
      have H24 : Hid (x.at w8 a8 ∧ x.kp w w8 ∧ w8.heap[w.heap.size]? = some (.cells #[.int .i64 0, .bool false, .int .i64 0, .int .i64 0, .string ⟨#[]⟩, .bool false, .bool false, .slice none 0 0] 110 (0, 0)) ∧ w8.heap[b5]? = some (.cells #[.int .i64 y.k, .bool y.b, .int .i64 y.m, .int .i64 y.s, .string y.t, .bool y.lo, .bool y.hi, .slice y.A y.n y.c] 110 (0, 0)) ∧ w8.heap[b8]? = some (.cells #[.int .i64 y8.k, .bool y8.b, .int .i64 y8.m, .int .i64 y8.s, .string y8.t, .bool y8.lo, .bool y8.hi, .slice y8.A y8.n y8.c] 110 (0, 0))) := Lib.hid ⟨h23, H22.out.2.1.trans k23, k23.blk H22.out.2.2.1 hne, k23.blk H22.out.2.2.2.1 hb5g, k23.blk H22.out.2.2.2.2 hb8g⟩
      clear h23 k23
      go_wp2_with fail
      refine (HE.out.use w8 a8 H24.out.1).mono ?_
      rintro e w9 ⟨⟨y9, rfl⟩, a9, la9, h25, k25⟩
      have H26 : Hid (x.at w9 a9 ∧ x.kp w w9 ∧ w9.heap[w.heap.size]? = some (.cells #[.int .i64 0, .bool false, .int .i64 0, .int .i64 0, .string ⟨#[]⟩, .bool false, .bool false, .slice none 0 0] 110 (0, 0)) ∧ w9.heap[b5]? = some (.cells #[.int .i64 y.k, .bool y.b, .int .i64 y.m, .int .i64 y.s, .string y.t, .bool y.lo, .bool y.hi, .slice y.A y.n y.c] 110 (0, 0)) ∧ w9.heap[b8]? = some (.cells #[.int .i64 y8.k, .bool y8.b, .int .i64 y8.m, .int .i64 y8.s, .string y8.t, .bool y8.lo, .bool y8.hi, .slice y8.A y8.n y8.c] 110 (0, 0))) := Lib.hid ⟨h25, H24.out.2.1.trans k25, k25.blk H24.out.2.2.1 hne, k25.blk H24.out.2.2.2.1 hb5g, k25.blk H24.out.2.2.2.2 hb8g⟩
      clear h25 k25
      go_upto_region 11 with fail
      obtain ⟨b9, hb9⟩ : ∃ b, w9.heap.size = b := ⟨_, rfl⟩
      have hb9g : b9 ≠ x.g := by have := H26.out.1.lt; omega
      have hb9w : w.heap.size < b9 := by have := blk_in H26.out.2.2.1; omega
      have H27 : Hid (x.at (w9.alloc (.cells #[.int .i64 y9.k, .bool y9.b, .int .i64 y9.m, .int .i64 y9.s, .string y9.t, .bool y9.lo, .bool y9.hi, .slice y9.A y9.n y9.c] 110)) a9 ∧ x.kp w (w9.alloc (.cells #[.int .i64 y9.k, .bool y9.b, .int .i64 y9.m, .int .i64 y9.s, .string y9.t, .bool y9.lo, .bool y9.hi, .slice y9.A y9.n y9.c] 110)) ∧ (w9.alloc (.cells #[.int .i64 y9.k, .bool y9.b, .int .i64 y9.m, .int .i64 y9.s, .string y9.t, .bool y9.lo, .bool y9.hi, .slice y9.A y9.n y9.c] 110)).heap[w.heap.size]? = some (.cells #[.int .i64 0, .bool false, .int .i64 0, .int .i64 0, .string ⟨#[]⟩, .bool false, .bool false, .slice none 0 0] 110 (0, 0)) ∧ (w9.alloc (.cells #[.int .i64 y9.k, .bool y9.b, .int .i64 y9.m, .int .i64 y9.s, .string y9.t, .bool y9.lo, .bool y9.hi, .slice y9.A y9.n y9.c] 110)).heap[b5]? = some (.cells #[.int .i64 y.k, .bool y.b, .int .i64 y.m, .int .i64 y.s, .string y.t, .bool y.lo, .bool y.hi, .slice y.A y.n y.c] 110 (0, 0)) ∧ (w9.alloc (.cells #[.int .i64 y9.k, .bool y9.b, .int .i64 y9.m, .int .i64 y9.s, .string y9.t, .bool y9.lo, .bool y9.hi, .slice y9.A y9.n y9.c] 110)).heap[b8]? = some (.cells #[.int .i64 y8.k, .bool y8.b, .int .i64 y8.m, .int .i64 y8.s, .string y8.t, .bool y8.lo, .bool y8.hi, .slice y8.A y8.n y8.c] 110 (0, 0)) ∧ (w9.alloc (.cells #[.int .i64 y9.k, .bool y9.b, .int .i64 y9.m, .int .i64 y9.s, .string y9.t, .bool y9.lo, .bool y9.hi, .slice y9.A y9.n y9.c] 110)).heap[b9]? = some (.cells #[.int .i64 y9.k, .bool y9.b, .int .i64 y9.m, .int .i64 y9.s, .string y9.t, .bool y9.lo, .bool y9.hi, .slice y9.A y9.n y9.c] 110 (0, 0))) := Lib.hid ⟨H26.out.1.alloc _, H26.out.2.1.alloc _, alloc_blk H26.out.2.2.1, alloc_blk H26.out.2.2.2.1, alloc_blk H26.out.2.2.2.2, by rw [← hb9]; exact heap_alloc_new w9 _⟩
      try rw [hb9]
      generalize w9.alloc (.cells #[.int .i64 y9.k, .bool y9.b, .int .i64 y9.m, .int .i64 y9.s, .string y9.t, .bool y9.lo, .bool y9.hi, .slice y9.A y9.n y9.c] 110) = w27n at H27 ⊢
      clear hb9
      go_wp2_with fail
      refine (must_lit x hx w27n a9 H27.out.1 [⟨#[93]⟩, ⟨#[41]⟩] (by decide)).mono ?_
      rintro e w10 ⟨z, a10, rfl, hs28, h28, k28⟩
      have la10 : a9 ≤ a10 := by rcases hs28 with ⟨h, _⟩ | h <;> omega
      have HSz := Lib.hid hs28
      clear hs28
      have H29 : Hid (x.at w10 a10 ∧ x.kp w w10 ∧ w10.heap[w.heap.size]? = some (.cells #[.int .i64 0, .bool false, .int .i64 0, .int .i64 0, .string ⟨#[]⟩, .bool false, .bool false, .slice none 0 0] 110 (0, 0)) ∧ w10.heap[b5]? = some (.cells #[.int .i64 y.k, .bool y.b, .int .i64 y.m, .int .i64 y.s, .string y.t, .bool y.lo, .bool y.hi, .slice y.A y.n y.c] 110 (0, 0)) ∧ w10.heap[b8]? = some (.cells #[.int .i64 y8.k, .bool y8.b, .int .i64 y8.m, .int .i64 y8.s, .string y8.t, .bool y8.lo, .bool y8.hi, .slice y8.A y8.n y8.c] 110 (0, 0)) ∧ w10.heap[b9]? = some (.cells #[.int .i64 y9.k, .bool y9.b, .int .i64 y9.m, .int .i64 y9.s, .string y9.t, .bool y9.lo, .bool y9.hi, .slice y9.A y9.n y9.c] 110 (0, 0))) := Lib.hid ⟨h28, H27.out.2.1.trans k28, k28.blk H27.out.2.2.1 hne, k28.blk H27.out.2.2.2.1 hb5g, k28.blk H27.out.2.2.2.2.1 hb8g, k28.blk H27.out.2.2.2.2.2 hb9g⟩
      clear h28 k28
      have hhc := H29.out.2.2.1
      obtain ⟨c0, c1, c2, c3, c4, c5, c6, c7, cf0, cf1, cf2, cf3, cf4, cf5, cf6, cf7⟩ := cells8a hhc
      clear hhc
      have hhq := H29.out.2.2.2.1
      obtain ⟨q0, q1, q2, q3, q4, q5, q6, q7, qf0, qf1, qf2, qf3, qf4, qf5, qf6, qf7⟩ := cells8 hhq
      clear hhq
      have hhr := H29.out.2.2.2.2.1
      obtain ⟨r0, r1, r2, r3, r4, r5, r6, r7, rf0, rf1, rf2, rf3, rf4, rf5, rf6, rf7⟩ := cells8 hhr
      clear hhr
      have hhm := H29.out.2.2.2.2.2
      obtain ⟨m0, m1, m2, m3, m4, m5, m6, m7, mf0, mf1, mf2, mf3, mf4, mf5, mf6, mf7⟩ := cells8 hhm
      clear hhm
      go_wp2_with fail
      refine bodyPost_ret (results_cell_row rfl _ _ w.heap.size 110 _ (0, 0) _ rfl (put8 (alloc_blk H29.out.2.2.1) _ _ _ _ _ _ _ _) Try.underlying110 rfl (by kernel_rfl)) rfl ?_
      have hat := H29.out.1
      have hkp := H29.out.2.1
      exact ⟨⟨⟨_, _, _, _, _, _, _, _, _, _⟩, rfl⟩, a10, by omega, (by repeat (with_reducible first | exact hat | refine Cx.at.other ?_ hne hge _ | refine Cx.at.alloc ?_ _ | refine Cx.at.drew ?_)), (by repeat (with_reducible first | exact hkp | refine Cx.kp.other ?_ (Nat.le_refl _) _ | refine Cx.kp.alloc ?_ _ | refine Cx.kp.drew ?_))⟩
  · skip
    have hfs : (s.toList == []) = false := by simpa using hes
    have hgs : (s.toList != []) = true := by simpa using hes
    clear hes
    go_wp2_with fail
    have hxd : w4.drew.heap[b5]? = _ := H15.out.2.2.2
    refine start_ (n := 7) (S := fun w' => w'.cell? ⟨b5, 0, none⟩ = some (.int .i64 y.k) ∧ w'.cell? ⟨b5, 1, none⟩ = some (.bool y.b) ∧ w'.cell? ⟨b5, 2, none⟩ = some (.int .i64 y.m) ∧ w'.cell? ⟨b5, 3, none⟩ = some (.int .i64 y.s) ∧ w'.cell? ⟨b5, 4, none⟩ = some (.string y.t) ∧ w'.cell? ⟨b5, 5, none⟩ = some (.bool y.lo) ∧ w'.cell? ⟨b5, 6, none⟩ = some (.bool y.hi) ∧ w'.cell? ⟨b5, 7, none⟩ = some (.slice y.A y.n y.c)) (ds := [6]) #[false, false, false, false, false, false, false] (by kernel_rfl) rfl rfl ⟨(cell_of hxd 0), (cell_of hxd 1), (cell_of hxd 2), (cell_of hxd 3), (cell_of hxd 4), (cell_of hxd 5), (cell_of hxd 6), (cell_of hxd 7)⟩ (fun hHeld => ?_)
    refine pure_ (i := 0) (N := some 19) (v := ?_) (a' := ?_) #[true, false, false, false, false, false, false] rfl rfl (by kernel_rfl) (fun _ _ _ h => h) (Or.inl ⟨by rfl, ?_⟩) ?_ ?_
    rotate_left
    · intro w'
      go_simp
      with_reducible rfl
    rotate_left
    · simp only [Act.put, List.setIfInBounds_toArray, List.set_cons_zero, List.set_cons_succ, i64_w, i32_w]
      rfl
    refine pure_ (i := 2) (N := some 21) (v := ?_) (a' := ?_) #[true, false, true, false, false, false, false] rfl rfl (by kernel_rfl) (fun _ _ _ h => h) (Or.inl ⟨by rfl, ?_⟩) ?_ ?_
    rotate_left
    · intro w'
      go_simp
      with_reducible rfl
    rotate_left
    · simp only [Act.put, List.setIfInBounds_toArray, List.set_cons_zero, List.set_cons_succ, i64_w, i32_w]
      rfl
    refine pure_ (i := 3) (N := some 22) (v := ?_) (a' := ?_) #[true, false, true, true, false, false, false] rfl rfl (by kernel_rfl) (fun _ _ _ h => h) (Or.inl ⟨by rfl, ?_⟩) ?_ ?_
    rotate_left
    · intro w'
      go_simp
      with_reducible rfl
    rotate_left
    · simp only [Act.put, List.setIfInBounds_toArray, List.set_cons_zero, List.set_cons_succ, i64_w, i32_w]
      rfl
    refine take_ (i := 1) (N := some 20) (v := ?_) (a' := ?_) #[true, true, true, true, false, false, false] rfl rfl (by kernel_rfl) (fun _ _ _ h => h) (Or.inl ⟨by rfl, ?_⟩) hHeld ?_ ?_
    rotate_left
    · rintro w' ⟨s0, s1, s2, s3, s4, s5, s6, s7⟩
      go_simp
      with_reducible rfl
    rotate_left
    · simp only [Act.put, List.setIfInBounds_toArray, List.set_cons_zero, List.set_cons_succ, i64_w, i32_w]
      rfl
    refine one_ (i := 4) (N := some 23) #[true, true, true, true, true, false, false] rfl rfl (by kernel_rfl) (by decide) (fun K hK => ?_)
    refine goes_ Try.func92 (by kernel_rfl) rfl #[.pointer (some ⟨x.g, 0, none⟩), .int .i64 d] (by rfl) rfl rfl (by simp only [List.map_toArray, List.map_cons, List.map_nil]; rfl) ?_
    with_reducible refine (HG.out.use w4.drew a4 H15.out.1.drew).mono ?_
    rintro e w5 ⟨⟨u, rfl⟩, a5, ha5, h5, k5⟩
    refine ⟨_, rfl, ?_⟩
    have H5 : Hid (x.at w5 a5 ∧ x.kp w4 w5 ∧ w5.heap[w.heap.size]? = some (.cells #[.int .i64 0, .bool false, .int .i64 0, .int .i64 0, .string ⟨#[]⟩, .bool false, .bool false, .slice none 0 0] 110 (0, 0)) ∧ w5.heap[b5]? = some (.cells #[.int .i64 y.k, .bool y.b, .int .i64 y.m, .int .i64 y.s, .string y.t, .bool y.lo, .bool y.hi, .slice y.A y.n y.c] 110 (0, 0)) ∧ a4 ≤ a5) := Lib.hid ⟨h5, (Cx.kp.refl x w4).drew.trans k5, k5.blk (w := w4.drew) H15.out.2.2.1 hne, k5.blk (w := w4.drew) H15.out.2.2.2 hb5g, ha5⟩
    clear h5 k5 ha5
    obtain ⟨q0, q1, q2, q3, q4, q5, q6, q7, qf0, qf1, qf2, qf3, qf4, qf5, qf6, qf7⟩ := cells8 H5.out.2.2.2.1
    refine hK.out _ _ ⟨q0, q1, q2, q3, q4, q5, q6, q7⟩ (fun hHeld => ?_)
    clear hK K
    refine norm_ (a' := ?_) ?_ ?_
    rotate_left
    · show Act.put _ (some 23) _ = _
      simp only [Act.put, List.setIfInBounds_toArray, List.set_cons_zero, List.set_cons_succ, i64_w, i32_w]
      rfl
    refine one_ (i := 5) (N := some 24) #[true, true, true, true, true, true, false] rfl rfl (by kernel_rfl) (by decide) (fun K hK => ?_)
    refine goes_ Try.func82 (by kernel_rfl) rfl #[.string s, .agg #[.int .i64 y.k, .bool y.b, .int .i64 y.m, .int .i64 y.s, .string y.t, .bool y.lo, .bool y.hi, .slice y.A y.n y.c], .agg #[.int .i64 u.k, .bool u.b, .int .i64 u.m, .int .i64 u.s, .string u.t, .bool u.lo, .bool u.hi, .slice u.A u.n u.c]] (by rfl) rfl rfl (by simp only [List.map_toArray, List.map_cons, List.map_nil]; rfl) ?_
    with_reducible refine (bin_any s y u w5).mono ?_
    rintro e w6 ⟨⟨v, rfl⟩, hb6⟩
    refine ⟨_, rfl, ?_⟩
    have H6 : Hid (x.at w6 a5 ∧ x.kp w w6 ∧ w6.heap[w.heap.size]? = some (.cells #[.int .i64 0, .bool false, .int .i64 0, .int .i64 0, .string ⟨#[]⟩, .bool false, .bool false, .slice none 0 0] 110 (0, 0)) ∧ w6.heap[b5]? = some (.cells #[.int .i64 y.k, .bool y.b, .int .i64 y.m, .int .i64 y.s, .string y.t, .bool y.lo, .bool y.hi, .slice y.A y.n y.c] 110 (0, 0))) := Lib.hid ⟨H5.out.1.below hb6, (H15.out.2.1.trans H5.out.2.1).below hb6, (hb6.block _ (blk_in H5.out.2.2.1)).trans H5.out.2.2.1, (hb6.block b5 (blk_in H5.out.2.2.2.1)).trans H5.out.2.2.2.1⟩
    clear hb6
    obtain ⟨r0, r1, r2, r3, r4, r5, r6, r7, rf0, rf1, rf2, rf3, rf4, rf5, rf6, rf7⟩ := cells8 H6.out.2.2.2
    obtain ⟨c0, c1, c2, c3, c4, c5, c6, c7, cf0, cf1, cf2, cf3, cf4, cf5, cf6, cf7⟩ := cells8 H6.out.2.2.1
    refine hK.out _ _ ⟨r0, r1, r2, r3, r4, r5, r6, r7⟩ (fun hHeld => ?_)
    clear hK K
    refine norm_ (a' := ?_) ?_ ?_
    rotate_left
    · show Act.put _ (some 24) _ = _
      simp only [Act.put, List.setIfInBounds_toArray, List.set_cons_zero, List.set_cons_succ, i64_w, i32_w]
      rfl
    refine last_ (i := 6) (N := none) #[true, true, true, true, true, true, true] rfl rfl (by kernel_rfl) (by decide) (fun K hK => ?_)
    refine skip_ (w1 := ?_) (by rfl) rfl ?_ ?_
    rotate_left
    · go_simp
      rfl
    refine hK.out _ _ ?_
    clear hK K
    refine done_ (by kernel_rfl) ?_

    go_wp2_with fail
    have h55 := H5.out.2.2.2.2
    refine bodyPost_ret (results_cell_row rfl _ _ w.heap.size 110 _ (0, 0) _ rfl (put8 H6.out.2.2.1 _ _ _ _ _ _ _ _) Try.underlying110 rfl (by kernel_rfl)) rfl ?_
    have hat := H6.out.1
    have hkp := H6.out.2.1
    exact ⟨⟨⟨_, _, _, _, _, _, _, _, _, _⟩, rfl⟩, a5, by omega, (by repeat (with_reducible first | exact hat | refine Cx.at.other ?_ hne hge _ | refine Cx.at.alloc ?_ _ | refine Cx.at.drew ?_)), (by repeat (with_reducible first | exact hkp | refine Cx.kp.other ?_ (Nat.le_refl _) _ | refine Cx.kp.alloc ?_ _ | refine Cx.kp.drew ?_))⟩
/-- A row of expressions came back. -/
def RetR (e : Ending) : Prop := ∃ A n c, e = .returned (.slice A n c)
def Cx.rw (x : Cx) (w : World) (a : Nat) (e : Ending) (w' : World) : Prop := RetR e ∧ ∃ a', a ≤ a' ∧ x.at w' a' ∧ x.kp w w'
theorem info110 : (Try.prog.info? 110).map (fun i => (i.zero, i.size, i.bytes)) = some (some (.agg #[.int .i64 0, .bool false, .int .i64 0, .int .i64 0, .string ⟨#[]⟩, .bool false, .bool false, .slice none 0 0]), 8, 80) := by kernel_rfl
theorem own_kp {x : Cx} {w w' : World} {B e sz n : Nat} {v : Value} {xs : List Value} (h : w.ownsRow B e sz v n xs) (hB : ∀ i, B ≤ i → i ≠ x.g) (k : x.kp w w') : w'.ownsRow B e sz v n xs := by
  refine ⟨h.1, ?_⟩
  rcases h.2 with h | ⟨g, cap, cur, hv, hg, hh, h'⟩
  · exact .inl h
  · exact .inr ⟨g, cap, cur, hv, hg, k.blk hh (hB g hg), h'⟩
theorem Cx.at.grown {x : Cx} {w w' : World} {a : Nat} {row : Option Nat} (h : x.at w a) (hg : w.grownBy w' row) (hr : ∀ i, row = some i → i ≠ x.g ∧ x.w0.heap.size ≤ i) : x.at w' a := by
  have hl := h.lt
  obtain ⟨en, er, po, hh, ha, hb⟩ := h
  exact ⟨en, er, po, (hg.block _ hl (fun e => (hr _ e.symm).1 rfl)).trans hh, ha, hb.grown hg hb.size (fun i e => (hr i e).2)⟩
theorem Cx.kp.grown {x : Cx} {w w1 w2 : World} {row : Option Nat} (h : x.kp w w1) (hg : w1.grownBy w2 row) (hr : ∀ i, row = some i → w.heap.size ≤ i) : x.kp w w2 :=
  ⟨Nat.le_trans h.1 hg.size, fun i hi hne => (hg.block i (Nat.lt_of_lt_of_le hi h.1) (fun e => by have := hr i e.symm; omega)).trans (h.2 i hi hne)⟩
theorem cell8_new (w : World) (x0 x1 x2 x3 x4 x5 x6 x7 : Value) (t : TypeId) : ∀ (j : Nat) (u : Value), [x0, x1, x2, x3, x4, x5, x6, x7][j]? = some u → (w.alloc (.cells #[x0, x1, x2, x3, x4, x5, x6, x7] t)).cell? ((⟨w.heap.size, 0, none⟩ : Addr).add j) = some u := fun j u hu => by
  rw [cell_at (heap_alloc_new w _)]
  simpa using hu
set_option maxHeartbeats 4000000 in
theorem row_any (x : Cx) (hx : x.ok) (d : Int) (hd0 : 0 ≤ d) (hd8 : d ≤ 8) (hE : x.PE 70 (d + 1)) (cl : ByteArray) (w : World) (a : Nat) (h : x.at w a) :
    Calls Try.prog 98 #[.pointer (some ⟨x.g, 0, none⟩), .int .i64 d, .string cl] w fun e w' => x.rw w a e w' := by
  obtain ⟨i0, hi0, hz0, hz1, hz2⟩ := parts_of_info info110
  have hB : ∀ i, w.heap.size ≤ i → i ≠ x.g ∧ x.w0.heap.size ≤ i := fun i hi => ⟨by have := h.lt; omega, Nat.le_trans h.old.size hi⟩
  have hlen := hx.len
  have HE := Lib.hid hE
  have HX := Lib.hid h
  have HB := Lib.hid hB
  clear hE h hB
  go_enter Try.func98, Try.ntmps98
  go_wp2_with fail
  refine (take_lit x hx w a HX.out [cl] (by simp)).mono ?_
  rintro e w2 ⟨s, a2, rfl, hs, h2, k2⟩
  have ha2 : a ≤ a2 := by rcases hs with ⟨h, _⟩ | h <;> omega
  have H2 := Lib.hid (And.intro h2 k2)
  clear h2 k2 hs
  by_cases he : s.toList = []
  · go_wp2_with fail
    go_loopg [7] x.l (fun gk v wr => ∃ a' n A c, ∃ xs : List Value, v = .slice A n c ∧ a ≤ a' ∧ x.l ≤ gk + a' ∧ n ≤ a' ∧ Hid (x.at wr a' ∧ x.kp w wr ∧ wr.ownsRow w.heap.size 110 8 (.slice A n c) n xs))
    case atStart => exact ⟨a2, 0, none, 0, [], rfl, ha2, by omega, by omega, Lib.hid ⟨H2.out.1, H2.out.2, World.ownsRow_nil _ _ _ _⟩⟩
    case round =>
      obtain ⟨a', n, A, c, xs, rfl, ha', hgk, hn, HR⟩ := hrel
      have HGK := Lib.hid hgk
      have hal := HR.out.1.le
      clear hgk
      go_wp2_with fail
      refine (HE.out wr a' HR.out.1).mono ?_
      rintro e w3 ⟨⟨y, rfl⟩, a3, ha3, h3, k3⟩
      have H3 : Hid (x.at w3 a3 ∧ x.kp w w3 ∧ w3.ownsRow w.heap.size 110 8 (.slice A n c) n xs) := Lib.hid ⟨h3, HR.out.2.1.trans k3, own_kp HR.out.2.2 (fun i hi => (HB.out i hi).1) k3⟩
      have ha3l := h3.le
      clear h3 k3
      have HNW : Hid (∀ (j : Nat) (u : Value), [Value.int .i64 y.k, .bool y.b, .int .i64 y.m, .int .i64 y.s, .string y.t, .bool y.lo, .bool y.hi, .slice y.A y.n y.c][j]? = some u → (w3.alloc (.cells #[.int .i64 y.k, .bool y.b, .int .i64 y.m, .int .i64 y.s, .string y.t, .bool y.lo, .bool y.hi, .slice y.A y.n y.c] 110)).cell? ((⟨w3.heap.size, 0, none⟩ : Addr).add j) = some u) := Lib.hid (cell8_new w3 _ _ _ _ _ _ _ _ 110)
      have HS3 : Hid (w.heap.size ≤ (w3.alloc (.cells #[.int .i64 y.k, .bool y.b, .int .i64 y.m, .int .i64 y.s, .string y.t, .bool y.lo, .bool y.hi, .slice y.A y.n y.c] 110)).heap.size) := Lib.hid (Nat.le_trans H3.out.2.1.1 (by simp))
      go_wp2_with (at_builtin; refine wpList_append_own_at _ rfl _ _ 108 rfl w.heap.size 110 i0 (.agg #[.int .i64 0, .bool false, .int .i64 0, .int .i64 0, .string ⟨#[]⟩, .bool false, .bool false, .slice none 0 0]) 8 80 Try.underlying108 hi0 hz0 hz1 hz2 rfl (by decide) _ _ _ rfl (H3.out.2.2.alloc _) ⟨w3.heap.size, 0, none⟩ 1 1 [.int .i64 y.k, .bool y.b, .int .i64 y.m, .int .i64 y.s, .string y.t, .bool y.lo, .bool y.hi, .slice y.A y.n y.c] rfl rfl HNW.out (by simp [Value.oneCell']) (by unfold maxLen; omega) (by omega) HS3.out ?_; intro v' w4 ho4 hg4 _ _; have H4 : Hid (x.at w4 a3 ∧ x.kp w w4 ∧ w4.ownsRow w.heap.size 110 8 v' (n + 1) (xs ++ [.int .i64 y.k, .bool y.b, .int .i64 y.m, .int .i64 y.s, .string y.t, .bool y.lo, .bool y.hi, .slice y.A y.n y.c])) := Lib.hid ⟨(H3.out.1.alloc _).grown hg4 (fun i e => HB.out i (own_lt H3.out.2.2 e).1), (H3.out.2.1.alloc _).grown hg4 (fun i e => (own_lt H3.out.2.2 e).1), ho4⟩; clear ho4 hg4; obtain ⟨A4, c4, hv4⟩ := own_sl H4.out.2.2; subst hv4)
      refine (must_lit x hx w4 a3 H4.out.1 [⟨#[44]⟩, cl] (by simp)).mono ?_
      rintro e w5 ⟨t, a5, rfl, ht, h5, k5⟩
      have H5 : Hid (x.at w5 a5 ∧ x.kp w w5 ∧ w5.ownsRow w.heap.size 110 8 (.slice A4 (n + 1) c4) (n + 1) (xs ++ [.int .i64 y.k, .bool y.b, .int .i64 y.m, .int .i64 y.s, .string y.t, .bool y.lo, .bool y.hi, .slice y.A y.n y.c])) := Lib.hid ⟨h5, H4.out.2.1.trans k5, own_kp H4.out.2.2 (fun i hi => (HB.out i hi).1) k5⟩
      have HT := Lib.hid ht
      have ha5 : a3 ≤ a5 := by rcases ht with ⟨h, _⟩ | h <;> omega
      have ha5l := h5.le
      clear h5 k5 ht
      by_cases hc : t.toList = [44]
      · have hf : (t.toList == [44]) = true := by simpa using hc
        have hg : (t.toList != [44]) = false := by simpa using hc
        have h35 : a5 = a3 + 1 := by
          rcases HT.out with ⟨_, h⟩ | h
          · rw [h] at hc
            exact absurd (empty_list.symm.trans hc) (by simp)
          · exact h
        clear hc
        go_wp2_with fail
        go_roundg (x.l - a5)
        case rel => exact ⟨a5, n + 1, A4, c4, _, rfl, by omega, by omega, by omega, H5⟩
        case measure => have := HGK.out; omega
      · have hf : (t.toList == [44]) = false := by simpa using hc
        have hg : (t.toList != [44]) = true := by simpa using hc
        clear hc
        go_wp2_with fail
        go_ret
        exact ⟨⟨_, _, _, rfl⟩, a5, by omega, H5.out.1, H5.out.2.1⟩
  · have hf : (s.toList == []) = false := by simpa using he
    have hg : (s.toList != []) = true := by simpa using he
    clear he
    go_wp2_with fail
    go_ret
    exact ⟨⟨_, _, _, rfl⟩, a2, ha2, H2.out.1, H2.out.2⟩
end Go.Proofs.Ytaddhackggbdkaa
