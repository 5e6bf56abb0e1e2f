/- A cell's tests, walked. Conditions stand in each part's own head. -/
import Derived.Test.YtaddhackggbdkaaHsG
import Derived.Laws.Tables
import Derived.Laws.CopyRow
import Derived.Deep.CutRange
/-! A whole struct stored into a block that is known, and loaded from it, at once: laws for a walk; a test's 21 cells; no condition. -/
namespace Go.Proofs.Ytaddhackggbdkaa
open Go.RowKit Go.Proofs.YtaddhackggbdkaaW.PrintLast
/-- The block g holds c, all else is as it was. -/
structure Stored (g : Nat) (c : Array Value) (t : TypeId) (w w' : World) : Prop where
  blk : w'.heap[g]? = some (.cells c t (0, 0))
  size : w'.heap.size = w.heap.size
  other : ∀ i, i ≠ g → w'.heap[i]? = w.heap[i]?
  os : w'.os = w.os
  tape : w'.tape = w.tape
  output : w'.output = w.output
theorem Stored.of_setRow {w : World} {g : Nat} {t : TypeId} {old c : Array Value} (hg : w.heap[g]? = some (.cells old t (0, 0))) : Stored g c t w (w.setRow g c) :=
  ⟨setRow_heap w g old c t (0, 0) hg, by simp [World.setRow], fun i h => setRow_other w g i c h, rfl, rfl, rfl⟩
theorem Stored.below {B g : Nat} {c : Array Value} {t : TypeId} {w0 w w' : World} (h : Stored g c t w w') (hb : Below B w0 w) (hg : B ≤ g) : Below B w0 w' :=
  ⟨h.os.trans hb.os, h.tape.trans hb.tape, h.output.trans hb.output, by rw [h.size]; exact hb.size, fun k hk => (h.other k (by omega)).trans (hb.block k hk)⟩
theorem Stored.at {x : Cx} {g a : Nat} {c : Array Value} {t : TypeId} {w w' : World} (h : Stored g c t w w') (ha : x.at w a) (hne : g ≠ x.g) (hge : x.w0.heap.size ≤ g) : x.at w' a := by
  obtain ⟨en, er, po, hh, hl, hb⟩ := ha
  exact ⟨en, er, po, (h.other _ (Ne.symm hne)).trans hh, hl, h.below hb hge⟩
theorem Stored.kp {x : Cx} {g : Nat} {c : Array Value} {t : TypeId} {w0 w w' : World} (h : Stored g c t w w') (ha : x.kp w0 w) (hge : w0.heap.size ≤ g) : x.kp w0 w' :=
  ⟨by rw [h.size]; exact ha.1, fun j hj hne => (h.other j (by omega)).trans (ha.2 j hj hne)⟩
theorem Stored.far {g b : Nat} {c : Array Value} {t : TypeId} {w w' : World} {o : Obj} (h : Stored g c t w w') (hb : w.heap[b]? = some o) (hne : b ≠ g) : w'.heap[b]? = some o := (h.other b hne).trans hb
theorem wpList_store_whole {ops : Array Oper} {rest : List Oper} {op : Oper} {a : Act} {w : World} {Q : Exit → Act → World → Prop} (hgd : op.guard = none) (ty : TypeId) (x y : Operand) (ho : op.op = .store ty x y)
    (g : Nat) (old cells : Array Value) (t : TypeId) (hx : a.eval x = .pointer (some ⟨g, 0, none⟩)) (hy : a.eval y = .agg cells) (hg : w.heap[g]? = some (.cells old t (0, 0)))
    (hi : (Try.prog.info? ty).map (·.size) = some cells.size) (hs : old.size = cells.size) (h1 : cells.all (·.oneCell') = true)
    (h : ∀ w', Stored g cells t w w' → wpList Try.prog ops Q rest (a.put op.dst undef) w') : wpList Try.prog ops Q (op :: rest) a w :=
  wpList_plain hgd fun K hK => by
    unfold Oper.wp execOp
    simp only [ho, hx, hy, Instr.storeAt, Instr.sureAddr, Sem.run_bind, Sem.run_pure, Result.andThen_ok, run_storeVar_row w g t ty old cells hg hi hs h1]
    exact hK _ _ (h _ (.of_setRow hg))
theorem run_storeVar_part (w : World) (g o : Nat) (t ty : TypeId) (old cells : Array Value) (hg : w.heap[g]? = some (.cells old t (0, 0))) (hi : (Try.prog.info? ty).map (·.size) = some cells.size)
    (hs : o + cells.size ≤ old.size) (h1 : cells.all (·.oneCell') = true) :
    (storeVar ty ⟨g, o, none⟩ (.agg cells)).run Try.prog w = .ok () (w.setRow g (old.toList.take o ++ cells.toList ++ old.toList.drop (o + cells.size)).toArray) := by
  have := run_storeCells_at (P := Try.prog) g o t cells.toList 0 old w hg (by simpa using hs) (fun v hv => (Array.all_eq_true_iff_forall_mem.1 h1) v (by simpa using hv))
  cases hq : Try.prog.info? ty with
  | none => simp [hq] at hi
  | some i =>
    have hs : cells.size = i.size := by simp [hq] at hi; omega
    simp only [Nat.add_zero, Array.length_toList] at this
    simp [storeVar, sizeOf, typeInfo, hq, Value.cells, hs, this]
theorem wpList_store_part {ops : Array Oper} {rest : List Oper} {op : Oper} {a : Act} {w : World} {Q : Exit → Act → World → Prop} (hgd : op.guard = none) (ty : TypeId) (x y : Operand) (ho : op.op = .store ty x y)
    (g o : Nat) (old cells new : Array Value) (t : TypeId) (hx : a.eval x = .pointer (some ⟨g, o, none⟩)) (hy : a.eval y = .agg cells) (hg : w.heap[g]? = some (.cells old t (0, 0)))
    (hi : (Try.prog.info? ty).map (·.size) = some cells.size) (hs : o + cells.size ≤ old.size) (h1 : cells.all (·.oneCell') = true) (hn : (old.toList.take o ++ cells.toList ++ old.toList.drop (o + cells.size)).toArray = new)
    (h : ∀ w', Stored g new t w w' → wpList Try.prog ops Q rest (a.put op.dst undef) w') : wpList Try.prog ops Q (op :: rest) a w :=
  wpList_plain hgd fun K hK => by
    subst hn
    unfold Oper.wp execOp
    simp only [ho, hx, hy, Instr.storeAt, Instr.sureAddr, Sem.run_bind, Sem.run_pure, Result.andThen_ok, run_storeVar_part w g o t ty old cells hg hi hs h1]
    exact hK _ _ (h _ (.of_setRow hg))
theorem wpList_load_whole {ops : Array Oper} {rest : List Oper} {op : Oper} {a : Act} {w : World} {Q : Exit → Act → World → Prop} (hgd : op.guard = none) (ty : TypeId) (x : Operand) (ho : op.op = .load ty x)
    (g : Nat) (cells : Array Value) (hx : a.eval x = .pointer (some ⟨g, 0, none⟩)) (hl : (loadVar ty ⟨g, 0, none⟩).run Try.prog w = .ok (.agg cells) w)
    (h : wpList Try.prog ops Q rest (a.put op.dst (.agg cells)) w) : wpList Try.prog ops Q (op :: rest) a w :=
  wpList_plain hgd fun K hK => by
    unfold Oper.wp execOp
    simp only [ho, hx, Instr.loadAt, Instr.sureAddr, Sem.run_bind, Sem.run_pure, Result.andThen_ok, hl]
    exact hK _ _ h
theorem run_load142 {w : World} {g : Nat} {cells : Array Value} (hg : w.heap[g]? = some (.cells cells 142 (0, 0))) (hs : cells.size = 21) : (loadVar 142 ⟨g, 0, none⟩).run Try.prog w = .ok (.agg cells) w :=
  run_loadVar_row w g 142 142 cells (0, 0) _ hg Try.underlying142 rfl (by rw [hs]; kernel_rfl)
end Go.Proofs.Ytaddhackggbdkaa
/-! One test of a cell, read; condition: the reader stands on tokens that lie in an elder world. -/
namespace Go.Proofs.Ytaddhackggbdkaa
open Go.RowKit Go.Proofs.YtaddhackggbdkaaW.PrintLast
set_option maxRecDepth 100000
set_option linter.unusedSimpArgs false
/-- A test's parts. -/
structure Te where
  k : Int
  r : ByteArray
  y : Ex
  z : Ex
  lo : Bool
  hi : Bool
  A : Option Addr
  n : Nat
  c : Nat
def RetTe (e : Ending) : Prop := ∃ u : Te, e = .returned (.agg #[.int .i64 u.k, .string u.r, .int .i64 u.y.k, .bool u.y.b, .int .i64 u.y.m, .int .i64 u.y.s, .string u.y.t, .bool u.y.lo, .bool u.y.hi, .slice u.y.A u.y.n u.y.c, .int .i64 u.z.k, .bool u.z.b, .int .i64 u.z.m, .int .i64 u.z.s, .string u.z.t, .bool u.z.lo, .bool u.z.hi, .slice u.z.A u.z.n u.z.c, .bool u.lo, .bool u.hi, .slice u.A u.n u.c])
def Cx.ts (x : Cx) (w : World) (e : Ending) (w' : World) : Prop := RetTe e ∧ ∃ a', x.at w' a' ∧ x.kp w w'
set_option maxHeartbeats 4000000 in
theorem test7_any (x : Cx) (hx : x.ok) (w : World) (a : Nat) (h : x.at w a) : Calls Try.prog 84 #[.pointer (some ⟨x.g, 0, none⟩)] w fun e w' => x.ts w e w' := by
  have hne : w.heap.size ≠ x.g := by have := h.lt; omega
  have hge : x.w0.heap.size ≤ w.heap.size := h.old.size
  obtain ⟨W1, hW1⟩ : ∃ W1, w.alloc (.cells #[.int .i64 0, .string ⟨#[]⟩, .int .i64 0, .bool false, .int .i64 0, .int .i64 0, .string ⟨#[]⟩, .bool false, .bool false, .slice none 0 0, .int .i64 0, .bool false, .int .i64 0, .int .i64 0, .string ⟨#[]⟩, .bool false, .bool false, .slice none 0 0, .bool false, .bool false, .slice none 0 0] 142) = W1 := ⟨_, rfl⟩
  have H1 : Hid (x.at W1 a ∧ x.kp w W1 ∧ W1.heap[w.heap.size]? = some (.cells #[.int .i64 0, .string ⟨#[]⟩, .int .i64 0, .bool false, .int .i64 0, .int .i64 0, .string ⟨#[]⟩, .bool false, .bool false, .slice none 0 0, .int .i64 0, .bool false, .int .i64 0, .int .i64 0, .string ⟨#[]⟩, .bool false, .bool false, .slice none 0 0, .bool false, .bool false, .slice none 0 0] 142 (0, 0))) := Lib.hid (by rw [← hW1]; exact ⟨h.alloc _, (Cx.kp.refl _ _).alloc _, heap_alloc_new w _⟩)
  have hlt1 : w.heap.size < W1.heap.size := (Array.getElem?_eq_some_iff.1 H1.out.2.2).1
  clear h
  go_enter Try.func84, Try.ntmps84
  go_wp2_with fail
  refine (take7_lit x hx W1 a H1.out.1 [⟨#[60]⟩, ⟨#[60, 61]⟩, ⟨#[62]⟩, ⟨#[62, 61]⟩, ⟨#[61]⟩, ⟨#[33, 61]⟩] (by decide)).mono ?_
  rintro e w2 ⟨s, a2, rfl, -, h11, k11⟩
  have H12 : Hid (x.at w2 a2 ∧ x.kp w w2 ∧ w2.heap[w.heap.size]? = some (.cells #[.int .i64 0, .string ⟨#[]⟩, .int .i64 0, .bool false, .int .i64 0, .int .i64 0, .string ⟨#[]⟩, .bool false, .bool false, .slice none 0 0, .int .i64 0, .bool false, .int .i64 0, .int .i64 0, .string ⟨#[]⟩, .bool false, .bool false, .slice none 0 0, .bool false, .bool false, .slice none 0 0] 142 (0, 0))) := Lib.hid ⟨h11, H1.out.2.1.trans k11, k11.blk H1.out.2.2 hne⟩
  clear h11 k11
  clear hW1 hlt1
  by_cases hes : s.toList = []
  rotate_left
  · skip
    have hfs : (s.toList == []) = false := by simpa using hes
    have hgs : (s.toList != []) = true := by simpa using hes
    clear hes
    go_wp2_with fail
    refine (expr7_any x hx w2 a2 H12.out.1).mono ?_
    rintro e w3 ⟨⟨y, rfl⟩, a3, h13, k13⟩
    have H14 : Hid (x.at w3 a3 ∧ x.kp w w3 ∧ w3.heap[w.heap.size]? = some (.cells #[.int .i64 0, .string ⟨#[]⟩, .int .i64 0, .bool false, .int .i64 0, .int .i64 0, .string ⟨#[]⟩, .bool false, .bool false, .slice none 0 0, .int .i64 0, .bool false, .int .i64 0, .int .i64 0, .string ⟨#[]⟩, .bool false, .bool false, .slice none 0 0, .bool false, .bool false, .slice none 0 0] 142 (0, 0))) := Lib.hid ⟨h13, H12.out.2.1.trans k13, k13.blk H12.out.2.2 hne⟩
    clear h13 k13
    go_wp2_with ((refine wpList_store_whole (by rfl) 142 (.tmp 2) (.tmp 14) (by rfl) w.heap.size _ #[.int .i64 2, .string s, .int .i64 y.k, .bool y.b, .int .i64 y.m, .int .i64 y.s, .string y.t, .bool y.lo, .bool y.hi, .slice y.A y.n y.c, .int .i64 0, .bool false, .int .i64 0, .int .i64 0, .string ⟨#[]⟩, .bool false, .bool false, .slice none 0 0, .bool false, .bool false, .slice none 0 0] 142 (by rfl) (by rfl) H14.out.2.2 (by kernel_rfl) (by rfl) (by simp [Value.oneCell']) ?_; intro w4 hst; have H15 : Hid (x.at w4 a3 ∧ x.kp w w4 ∧ w4.heap[w.heap.size]? = some (.cells #[.int .i64 2, .string s, .int .i64 y.k, .bool y.b, .int .i64 y.m, .int .i64 y.s, .string y.t, .bool y.lo, .bool y.hi, .slice y.A y.n y.c, .int .i64 0, .bool false, .int .i64 0, .int .i64 0, .string ⟨#[]⟩, .bool false, .bool false, .slice none 0 0, .bool false, .bool false, .slice none 0 0] 142 (0, 0))) := Lib.hid ⟨hst.at H14.out.1 hne (Nat.le_trans hge (Nat.le_refl _)), hst.kp H14.out.2.1 (Nat.le_refl _), hst.blk⟩; clear hst))
    refine bodyPost_ret (results_cell_row rfl _ _ w.heap.size 142 _ (0, 0) _ rfl H15.out.2.2 Try.underlying142 rfl (by kernel_rfl)) rfl ?_
    exact ⟨⟨⟨_, _, ⟨_, _, _, _, _, _, _, _, _, _⟩, ⟨_, _, _, _, _, _, _, _, _, _⟩, _, _, _, _, _⟩, rfl⟩, a3, H15.out.1, H15.out.2.1⟩
  go_wp2_with fail
  refine (ranged_any x hx w2 a2 H12.out.1).mono ?_
  rintro e w3 ⟨⟨z, rfl⟩, hb⟩
  have h3 := H12.out.1.below hb
  have k3 := Cx.kp.of_below (x := x) hb
  clear hb
  have H16 : Hid (x.at w3 a2 ∧ x.kp w w3 ∧ w3.heap[w.heap.size]? = some (.cells #[.int .i64 0, .string ⟨#[]⟩, .int .i64 0, .bool false, .int .i64 0, .int .i64 0, .string ⟨#[]⟩, .bool false, .bool false, .slice none 0 0, .int .i64 0, .bool false, .int .i64 0, .int .i64 0, .string ⟨#[]⟩, .bool false, .bool false, .slice none 0 0, .bool false, .bool false, .slice none 0 0] 142 (0, 0))) := Lib.hid ⟨h3, H12.out.2.1.trans k3, k3.blk H12.out.2.2 hne⟩
  clear h3 k3
  cases z
  · skip
    go_wp2_with fail
    refine (expr7_any x hx w3 a2 H16.out.1).mono ?_
    rintro e w4 ⟨⟨y, rfl⟩, a4, h17, k17⟩
    have H18 : Hid (x.at w4 a4 ∧ x.kp w w4 ∧ w4.heap[w.heap.size]? = some (.cells #[.int .i64 0, .string ⟨#[]⟩, .int .i64 0, .bool false, .int .i64 0, .int .i64 0, .string ⟨#[]⟩, .bool false, .bool false, .slice none 0 0, .int .i64 0, .bool false, .int .i64 0, .int .i64 0, .string ⟨#[]⟩, .bool false, .bool false, .slice none 0 0, .bool false, .bool false, .slice none 0 0] 142 (0, 0))) := Lib.hid ⟨h17, H16.out.2.1.trans k17, k17.blk H16.out.2.2 hne⟩
    clear h17 k17
    go_wp2_with ((refine wpList_store_whole (by rfl) 142 (.tmp 2) (.tmp 20) (by rfl) w.heap.size _ #[.int .i64 2, .string ⟨#[61]⟩, .int .i64 y.k, .bool y.b, .int .i64 y.m, .int .i64 y.s, .string y.t, .bool y.lo, .bool y.hi, .slice y.A y.n y.c, .int .i64 0, .bool false, .int .i64 0, .int .i64 0, .string ⟨#[]⟩, .bool false, .bool false, .slice none 0 0, .bool false, .bool false, .slice none 0 0] 142 (by rfl) (by rfl) H18.out.2.2 (by kernel_rfl) (by rfl) (by simp [Value.oneCell']) ?_; intro w5 hst; have H19 : Hid (x.at w5 a4 ∧ x.kp w w5 ∧ w5.heap[w.heap.size]? = some (.cells #[.int .i64 2, .string ⟨#[61]⟩, .int .i64 y.k, .bool y.b, .int .i64 y.m, .int .i64 y.s, .string y.t, .bool y.lo, .bool y.hi, .slice y.A y.n y.c, .int .i64 0, .bool false, .int .i64 0, .int .i64 0, .string ⟨#[]⟩, .bool false, .bool false, .slice none 0 0, .bool false, .bool false, .slice none 0 0] 142 (0, 0))) := Lib.hid ⟨hst.at H18.out.1 hne (Nat.le_trans hge (Nat.le_refl _)), hst.kp H18.out.2.1 (Nat.le_refl _), hst.blk⟩; clear hst))
    refine bodyPost_ret (results_cell_row rfl _ _ w.heap.size 142 _ (0, 0) _ rfl H19.out.2.2 Try.underlying142 rfl (by kernel_rfl)) rfl ?_
    exact ⟨⟨⟨_, _, ⟨_, _, _, _, _, _, _, _, _, _⟩, ⟨_, _, _, _, _, _, _, _, _, _⟩, _, _, _, _, _⟩, rfl⟩, a4, H19.out.1, H19.out.2.1⟩
  go_wp2_with fail
  refine (take7_lit x hx w3 a2 H16.out.1 [⟨#[91]⟩, ⟨#[40]⟩] (by decide)).mono ?_
  rintro e w4 ⟨v, a4, rfl, -, h20, k20⟩
  have H21 : Hid (x.at w4 a4 ∧ x.kp w w4 ∧ w4.heap[w.heap.size]? = some (.cells #[.int .i64 0, .string ⟨#[]⟩, .int .i64 0, .bool false, .int .i64 0, .int .i64 0, .string ⟨#[]⟩, .bool false, .bool false, .slice none 0 0, .int .i64 0, .bool false, .int .i64 0, .int .i64 0, .string ⟨#[]⟩, .bool false, .bool false, .slice none 0 0, .bool false, .bool false, .slice none 0 0] 142 (0, 0))) := Lib.hid ⟨h20, H16.out.2.1.trans k20, k20.blk H16.out.2.2 hne⟩
  clear h20 k20
  have hb5g : w4.heap.size ≠ x.g := by have := H21.out.1.lt; omega
  have hb5w : w.heap.size < w4.heap.size := by have := blk_in H21.out.2.2; omega
  go_upto_region 7 with ((refine wpList_store_whole (by rfl) 142 (.tmp 4) (.tmp 25) (by rfl) w4.heap.size _ #[.int .i64 3, .string ⟨#[]⟩, .int .i64 0, .bool false, .int .i64 0, .int .i64 0, .string ⟨#[]⟩, .bool false, .bool false, .slice none 0 0, .int .i64 0, .bool false, .int .i64 0, .int .i64 0, .string ⟨#[]⟩, .bool false, .bool false, .slice none 0 0, .bool (v.toList == [91]), .bool false, .slice none 0 0] 142 (by rfl) (by rfl) (heap_alloc_new w4 _) (by kernel_rfl) (by rfl) (by simp [Value.oneCell']) ?_; intro w4s hst; have H45 : Hid (x.at w4s a4 ∧ x.kp w w4s ∧ w4s.heap[w.heap.size]? = some (.cells #[.int .i64 0, .string ⟨#[]⟩, .int .i64 0, .bool false, .int .i64 0, .int .i64 0, .string ⟨#[]⟩, .bool false, .bool false, .slice none 0 0, .int .i64 0, .bool false, .int .i64 0, .int .i64 0, .string ⟨#[]⟩, .bool false, .bool false, .slice none 0 0, .bool false, .bool false, .slice none 0 0] 142 (0, 0)) ∧ w4s.heap[w4.heap.size]? = some (.cells #[.int .i64 3, .string ⟨#[]⟩, .int .i64 0, .bool false, .int .i64 0, .int .i64 0, .string ⟨#[]⟩, .bool false, .bool false, .slice none 0 0, .int .i64 0, .bool false, .int .i64 0, .int .i64 0, .string ⟨#[]⟩, .bool false, .bool false, .slice none 0 0, .bool (v.toList == [91]), .bool false, .slice none 0 0] 142 (0, 0))) := Lib.hid ⟨hst.at (H21.out.1.alloc _) hb5g (Nat.le_trans hge (Nat.le_of_lt hb5w)), hst.kp (H21.out.2.1.alloc _) (Nat.le_of_lt hb5w), hst.far (alloc_blk H21.out.2.2) (by omega), hst.blk⟩; clear hst))
  generalize w4.heap.size = b5 at hb5g hb5w H45 ⊢
  go_wp2_with fail
  refine (expr7_any x hx w4s a4 H45.out.1).mono ?_
  rintro e w5 ⟨⟨y, rfl⟩, a5, h22, k22⟩
  have H23 : Hid (x.at w5 a5 ∧ x.kp w w5 ∧ w5.heap[w.heap.size]? = some (.cells #[.int .i64 0, .string ⟨#[]⟩, .int .i64 0, .bool false, .int .i64 0, .int .i64 0, .string ⟨#[]⟩, .bool false, .bool false, .slice none 0 0, .int .i64 0, .bool false, .int .i64 0, .int .i64 0, .string ⟨#[]⟩, .bool false, .bool false, .slice none 0 0, .bool false, .bool false, .slice none 0 0] 142 (0, 0)) ∧ w5.heap[b5]? = some (.cells #[.int .i64 3, .string ⟨#[]⟩, .int .i64 0, .bool false, .int .i64 0, .int .i64 0, .string ⟨#[]⟩, .bool false, .bool false, .slice none 0 0, .int .i64 0, .bool false, .int .i64 0, .int .i64 0, .string ⟨#[]⟩, .bool false, .bool false, .slice none 0 0, .bool (v.toList == [91]), .bool false, .slice none 0 0] 142 (0, 0))) := Lib.hid ⟨h22, H45.out.2.1.trans k22, k22.blk H45.out.2.2.1 hne, k22.blk H45.out.2.2.2 hb5g⟩
  clear h22 k22
  go_upto_region 8 with ((refine wpList_store_part (by rfl) 110 (.tmp 28) (.tmp 27) (by rfl) b5 2 _ #[.int .i64 y.k, .bool y.b, .int .i64 y.m, .int .i64 y.s, .string y.t, .bool y.lo, .bool y.hi, .slice y.A y.n y.c] #[.int .i64 3, .string ⟨#[]⟩, .int .i64 y.k, .bool y.b, .int .i64 y.m, .int .i64 y.s, .string y.t, .bool y.lo, .bool y.hi, .slice y.A y.n y.c, .int .i64 0, .bool false, .int .i64 0, .int .i64 0, .string ⟨#[]⟩, .bool false, .bool false, .slice none 0 0, .bool (v.toList == [91]), .bool false, .slice none 0 0] 142 (by rfl) (by rfl) H23.out.2.2.2 (by kernel_rfl) (by simp) (by simp [Value.oneCell']) (by rfl) ?_; intro w5s hst; have H24 : Hid (x.at w5s a5 ∧ x.kp w w5s ∧ w5s.heap[w.heap.size]? = some (.cells #[.int .i64 0, .string ⟨#[]⟩, .int .i64 0, .bool false, .int .i64 0, .int .i64 0, .string ⟨#[]⟩, .bool false, .bool false, .slice none 0 0, .int .i64 0, .bool false, .int .i64 0, .int .i64 0, .string ⟨#[]⟩, .bool false, .bool false, .slice none 0 0, .bool false, .bool false, .slice none 0 0] 142 (0, 0)) ∧ w5s.heap[b5]? = some (.cells #[.int .i64 3, .string ⟨#[]⟩, .int .i64 y.k, .bool y.b, .int .i64 y.m, .int .i64 y.s, .string y.t, .bool y.lo, .bool y.hi, .slice y.A y.n y.c, .int .i64 0, .bool false, .int .i64 0, .int .i64 0, .string ⟨#[]⟩, .bool false, .bool false, .slice none 0 0, .bool (v.toList == [91]), .bool false, .slice none 0 0] 142 (0, 0))) := Lib.hid ⟨hst.at H23.out.1 hb5g (Nat.le_trans hge (Nat.le_of_lt hb5w)), hst.kp H23.out.2.1 (Nat.le_of_lt hb5w), hst.far H23.out.2.2.1 (by omega), hst.blk⟩; clear hst))
  go_wp2_with fail
  refine (take7_lit x hx w5s a5 H24.out.1 [⟨#[46, 46]⟩] (by decide)).mono ?_
  rintro e w6 ⟨r, a6, rfl, -, h25, k25⟩
  have H26 : Hid (x.at w6 a6 ∧ x.kp w w6 ∧ w6.heap[w.heap.size]? = some (.cells #[.int .i64 0, .string ⟨#[]⟩, .int .i64 0, .bool false, .int .i64 0, .int .i64 0, .string ⟨#[]⟩, .bool false, .bool false, .slice none 0 0, .int .i64 0, .bool false, .int .i64 0, .int .i64 0, .string ⟨#[]⟩, .bool false, .bool false, .slice none 0 0, .bool false, .bool false, .slice none 0 0] 142 (0, 0)) ∧ w6.heap[b5]? = some (.cells #[.int .i64 3, .string ⟨#[]⟩, .int .i64 y.k, .bool y.b, .int .i64 y.m, .int .i64 y.s, .string y.t, .bool y.lo, .bool y.hi, .slice y.A y.n y.c, .int .i64 0, .bool false, .int .i64 0, .int .i64 0, .string ⟨#[]⟩, .bool false, .bool false, .slice none 0 0, .bool (v.toList == [91]), .bool false, .slice none 0 0] 142 (0, 0))) := Lib.hid ⟨h25, H24.out.2.1.trans k25, k25.blk H24.out.2.2.1 hne, k25.blk H24.out.2.2.2 hb5g⟩
  clear h25 k25
  go_wp2_with fail
  refine (expr7_any x hx w6 a6 H26.out.1).mono ?_
  rintro e w7 ⟨⟨z, rfl⟩, a7, h27, k27⟩
  have H28 : Hid (x.at w7 a7 ∧ x.kp w w7 ∧ w7.heap[w.heap.size]? = some (.cells #[.int .i64 0, .string ⟨#[]⟩, .int .i64 0, .bool false, .int .i64 0, .int .i64 0, .string ⟨#[]⟩, .bool false, .bool false, .slice none 0 0, .int .i64 0, .bool false, .int .i64 0, .int .i64 0, .string ⟨#[]⟩, .bool false, .bool false, .slice none 0 0, .bool false, .bool false, .slice none 0 0] 142 (0, 0)) ∧ w7.heap[b5]? = some (.cells #[.int .i64 3, .string ⟨#[]⟩, .int .i64 y.k, .bool y.b, .int .i64 y.m, .int .i64 y.s, .string y.t, .bool y.lo, .bool y.hi, .slice y.A y.n y.c, .int .i64 0, .bool false, .int .i64 0, .int .i64 0, .string ⟨#[]⟩, .bool false, .bool false, .slice none 0 0, .bool (v.toList == [91]), .bool false, .slice none 0 0] 142 (0, 0))) := Lib.hid ⟨h27, H26.out.2.1.trans k27, k27.blk H26.out.2.2.1 hne, k27.blk H26.out.2.2.2 hb5g⟩
  clear h27 k27
  go_upto_region 10 with ((refine wpList_store_part (by rfl) 110 (.tmp 34) (.tmp 33) (by rfl) b5 10 _ #[.int .i64 z.k, .bool z.b, .int .i64 z.m, .int .i64 z.s, .string z.t, .bool z.lo, .bool z.hi, .slice z.A z.n z.c] #[.int .i64 3, .string ⟨#[]⟩, .int .i64 y.k, .bool y.b, .int .i64 y.m, .int .i64 y.s, .string y.t, .bool y.lo, .bool y.hi, .slice y.A y.n y.c, .int .i64 z.k, .bool z.b, .int .i64 z.m, .int .i64 z.s, .string z.t, .bool z.lo, .bool z.hi, .slice z.A z.n z.c, .bool (v.toList == [91]), .bool false, .slice none 0 0] 142 (by rfl) (by rfl) H28.out.2.2.2 (by kernel_rfl) (by simp) (by simp [Value.oneCell']) (by rfl) ?_; intro w7s hst; have H29 : Hid (x.at w7s a7 ∧ x.kp w w7s ∧ w7s.heap[w.heap.size]? = some (.cells #[.int .i64 0, .string ⟨#[]⟩, .int .i64 0, .bool false, .int .i64 0, .int .i64 0, .string ⟨#[]⟩, .bool false, .bool false, .slice none 0 0, .int .i64 0, .bool false, .int .i64 0, .int .i64 0, .string ⟨#[]⟩, .bool false, .bool false, .slice none 0 0, .bool false, .bool false, .slice none 0 0] 142 (0, 0)) ∧ w7s.heap[b5]? = some (.cells #[.int .i64 3, .string ⟨#[]⟩, .int .i64 y.k, .bool y.b, .int .i64 y.m, .int .i64 y.s, .string y.t, .bool y.lo, .bool y.hi, .slice y.A y.n y.c, .int .i64 z.k, .bool z.b, .int .i64 z.m, .int .i64 z.s, .string z.t, .bool z.lo, .bool z.hi, .slice z.A z.n z.c, .bool (v.toList == [91]), .bool false, .slice none 0 0] 142 (0, 0))) := Lib.hid ⟨hst.at H28.out.1 hb5g (Nat.le_trans hge (Nat.le_of_lt hb5w)), hst.kp H28.out.2.1 (Nat.le_of_lt hb5w), hst.far H28.out.2.2.1 (by omega), hst.blk⟩; clear hst))
  go_wp2_with fail
  refine (take7_lit x hx w7s a7 H29.out.1 [⟨#[93]⟩, ⟨#[41]⟩] (by decide)).mono ?_
  rintro e w8 ⟨o, a8, rfl, -, h30, k30⟩
  have H31 : Hid (x.at w8 a8 ∧ x.kp w w8 ∧ w8.heap[w.heap.size]? = some (.cells #[.int .i64 0, .string ⟨#[]⟩, .int .i64 0, .bool false, .int .i64 0, .int .i64 0, .string ⟨#[]⟩, .bool false, .bool false, .slice none 0 0, .int .i64 0, .bool false, .int .i64 0, .int .i64 0, .string ⟨#[]⟩, .bool false, .bool false, .slice none 0 0, .bool false, .bool false, .slice none 0 0] 142 (0, 0)) ∧ w8.heap[b5]? = some (.cells #[.int .i64 3, .string ⟨#[]⟩, .int .i64 y.k, .bool y.b, .int .i64 y.m, .int .i64 y.s, .string y.t, .bool y.lo, .bool y.hi, .slice y.A y.n y.c, .int .i64 z.k, .bool z.b, .int .i64 z.m, .int .i64 z.s, .string z.t, .bool z.lo, .bool z.hi, .slice z.A z.n z.c, .bool (v.toList == [91]), .bool false, .slice none 0 0] 142 (0, 0))) := Lib.hid ⟨h30, H29.out.2.1.trans k30, k30.blk H29.out.2.2.1 hne, k30.blk H29.out.2.2.2 hb5g⟩
  clear h30 k30
  by_cases heo : o.toList = []
  · skip
    have hx0 : (o.toList == [93]) = false := by rw [heo]; rfl
    go_wp2_with fail
    refine (fail7_any x hx w8 a8 2 H31.out.1).mono ?_
    rintro e w9 ⟨rfl, h9, k9, -⟩
    have H32 : Hid (x.at w9 a8 ∧ x.kp w w9 ∧ w9.heap[w.heap.size]? = some (.cells #[.int .i64 0, .string ⟨#[]⟩, .int .i64 0, .bool false, .int .i64 0, .int .i64 0, .string ⟨#[]⟩, .bool false, .bool false, .slice none 0 0, .int .i64 0, .bool false, .int .i64 0, .int .i64 0, .string ⟨#[]⟩, .bool false, .bool false, .slice none 0 0, .bool false, .bool false, .slice none 0 0] 142 (0, 0)) ∧ w9.heap[b5]? = some (.cells #[.int .i64 3, .string ⟨#[]⟩, .int .i64 y.k, .bool y.b, .int .i64 y.m, .int .i64 y.s, .string y.t, .bool y.lo, .bool y.hi, .slice y.A y.n y.c, .int .i64 z.k, .bool z.b, .int .i64 z.m, .int .i64 z.s, .string z.t, .bool z.lo, .bool z.hi, .slice z.A z.n z.c, .bool (v.toList == [91]), .bool false, .slice none 0 0] 142 (0, 0))) := Lib.hid ⟨h9, H31.out.2.1.trans k9, k9.blk H31.out.2.2.1 hne, k9.blk H31.out.2.2.2 hb5g⟩
    clear h9 k9
    have q19 := cell_of H32.out.2.2.2 19
    have qf19 := free_of H32.out.2.2.2 19
    replace q19 : w9.cell? ⟨b5, 19, none⟩ = some (.bool false) := q19
    go_upto_region 14 with fail
    have H33 : Hid (x.at (w9.setCell ⟨b5, 19, none⟩ (.bool false)) a8 ∧ x.kp w (w9.setCell ⟨b5, 19, none⟩ (.bool false)) ∧ (w9.setCell ⟨b5, 19, none⟩ (.bool false)).heap[w.heap.size]? = some (.cells #[.int .i64 0, .string ⟨#[]⟩, .int .i64 0, .bool false, .int .i64 0, .int .i64 0, .string ⟨#[]⟩, .bool false, .bool false, .slice none 0 0, .int .i64 0, .bool false, .int .i64 0, .int .i64 0, .string ⟨#[]⟩, .bool false, .bool false, .slice none 0 0, .bool false, .bool false, .slice none 0 0] 142 (0, 0)) ∧ (w9.setCell ⟨b5, 19, none⟩ (.bool false)).heap[b5]? = some (.cells #[.int .i64 3, .string ⟨#[]⟩, .int .i64 y.k, .bool y.b, .int .i64 y.m, .int .i64 y.s, .string y.t, .bool y.lo, .bool y.hi, .slice y.A y.n y.c, .int .i64 z.k, .bool z.b, .int .i64 z.m, .int .i64 z.s, .string z.t, .bool z.lo, .bool z.hi, .slice z.A z.n z.c, .bool (v.toList == [91]), .bool false, .slice none 0 0] 142 (0, 0))) := Lib.hid ⟨H32.out.1.other hb5g (Nat.le_trans hge (Nat.le_of_lt hb5w)) _, H32.out.2.1.other (Nat.le_of_lt hb5w) _, (set_other _ _ _ _ (by exact Nat.ne_of_lt hb5w)).trans H32.out.2.2.1, by simpa using blk_set H32.out.2.2.2 19 (.bool false)⟩
    generalize w9.setCell ⟨b5, 19, none⟩ (.bool false) = w33n at H33 ⊢
    clear q19 qf19
    go_wp2_with (first | (refine wpList_load_whole (by rfl) 142 (.tmp 4) (by rfl) b5 #[.int .i64 3, .string ⟨#[]⟩, .int .i64 y.k, .bool y.b, .int .i64 y.m, .int .i64 y.s, .string y.t, .bool y.lo, .bool y.hi, .slice y.A y.n y.c, .int .i64 z.k, .bool z.b, .int .i64 z.m, .int .i64 z.s, .string z.t, .bool z.lo, .bool z.hi, .slice z.A z.n z.c, .bool (v.toList == [91]), .bool false, .slice none 0 0] (by rfl) (run_load142 H33.out.2.2.2 (by rfl)) ?_) | (refine wpList_store_whole (by rfl) 142 (.tmp 2) (.tmp 45) (by rfl) w.heap.size _ #[.int .i64 3, .string ⟨#[]⟩, .int .i64 y.k, .bool y.b, .int .i64 y.m, .int .i64 y.s, .string y.t, .bool y.lo, .bool y.hi, .slice y.A y.n y.c, .int .i64 z.k, .bool z.b, .int .i64 z.m, .int .i64 z.s, .string z.t, .bool z.lo, .bool z.hi, .slice z.A z.n z.c, .bool (v.toList == [91]), .bool false, .slice none 0 0] 142 (by rfl) (by rfl) H33.out.2.2.1 (by kernel_rfl) (by rfl) (by simp [Value.oneCell']) ?_; intro w33e hst; have H34 : Hid (x.at w33e a8 ∧ x.kp w w33e ∧ w33e.heap[w.heap.size]? = some (.cells #[.int .i64 3, .string ⟨#[]⟩, .int .i64 y.k, .bool y.b, .int .i64 y.m, .int .i64 y.s, .string y.t, .bool y.lo, .bool y.hi, .slice y.A y.n y.c, .int .i64 z.k, .bool z.b, .int .i64 z.m, .int .i64 z.s, .string z.t, .bool z.lo, .bool z.hi, .slice z.A z.n z.c, .bool (v.toList == [91]), .bool false, .slice none 0 0] 142 (0, 0)) ∧ w33e.heap[b5]? = some (.cells #[.int .i64 3, .string ⟨#[]⟩, .int .i64 y.k, .bool y.b, .int .i64 y.m, .int .i64 y.s, .string y.t, .bool y.lo, .bool y.hi, .slice y.A y.n y.c, .int .i64 z.k, .bool z.b, .int .i64 z.m, .int .i64 z.s, .string z.t, .bool z.lo, .bool z.hi, .slice z.A z.n z.c, .bool (v.toList == [91]), .bool false, .slice none 0 0] 142 (0, 0))) := Lib.hid ⟨hst.at H33.out.1 hne (Nat.le_trans hge (Nat.le_refl _)), hst.kp H33.out.2.1 (Nat.le_refl _), hst.blk, hst.far H33.out.2.2.2 (by omega)⟩; clear hst))
    refine bodyPost_ret (results_cell_row rfl _ _ w.heap.size 142 _ (0, 0) _ rfl H34.out.2.2.1 Try.underlying142 rfl (by kernel_rfl)) rfl ?_
    exact ⟨⟨⟨_, _, ⟨_, _, _, _, _, _, _, _, _, _⟩, ⟨_, _, _, _, _, _, _, _, _, _⟩, _, _, _, _, _⟩, rfl⟩, a8, H34.out.1, H34.out.2.1⟩
  · skip
    have hfo : (o.toList == []) = false := by simpa using heo
    have hgo : (o.toList != []) = true := by simpa using heo
    clear heo
    have q19 := cell_of H31.out.2.2.2 19
    have qf19 := free_of H31.out.2.2.2 19
    replace q19 : w8.cell? ⟨b5, 19, none⟩ = some (.bool false) := q19
    go_upto_region 14 with fail
    have H35 : Hid (x.at (w8.setCell ⟨b5, 19, none⟩ (.bool (o.toList == [93]))) a8 ∧ x.kp w (w8.setCell ⟨b5, 19, none⟩ (.bool (o.toList == [93]))) ∧ (w8.setCell ⟨b5, 19, none⟩ (.bool (o.toList == [93]))).heap[w.heap.size]? = some (.cells #[.int .i64 0, .string ⟨#[]⟩, .int .i64 0, .bool false, .int .i64 0, .int .i64 0, .string ⟨#[]⟩, .bool false, .bool false, .slice none 0 0, .int .i64 0, .bool false, .int .i64 0, .int .i64 0, .string ⟨#[]⟩, .bool false, .bool false, .slice none 0 0, .bool false, .bool false, .slice none 0 0] 142 (0, 0)) ∧ (w8.setCell ⟨b5, 19, none⟩ (.bool (o.toList == [93]))).heap[b5]? = some (.cells #[.int .i64 3, .string ⟨#[]⟩, .int .i64 y.k, .bool y.b, .int .i64 y.m, .int .i64 y.s, .string y.t, .bool y.lo, .bool y.hi, .slice y.A y.n y.c, .int .i64 z.k, .bool z.b, .int .i64 z.m, .int .i64 z.s, .string z.t, .bool z.lo, .bool z.hi, .slice z.A z.n z.c, .bool (v.toList == [91]), .bool (o.toList == [93]), .slice none 0 0] 142 (0, 0))) := Lib.hid ⟨H31.out.1.other hb5g (Nat.le_trans hge (Nat.le_of_lt hb5w)) _, H31.out.2.1.other (Nat.le_of_lt hb5w) _, (set_other _ _ _ _ (by exact Nat.ne_of_lt hb5w)).trans H31.out.2.2.1, by simpa using blk_set H31.out.2.2.2 19 (.bool (o.toList == [93]))⟩
    generalize w8.setCell ⟨b5, 19, none⟩ (.bool (o.toList == [93])) = w35n at H35 ⊢
    clear q19 qf19
    go_wp2_with (first | (refine wpList_load_whole (by rfl) 142 (.tmp 4) (by rfl) b5 #[.int .i64 3, .string ⟨#[]⟩, .int .i64 y.k, .bool y.b, .int .i64 y.m, .int .i64 y.s, .string y.t, .bool y.lo, .bool y.hi, .slice y.A y.n y.c, .int .i64 z.k, .bool z.b, .int .i64 z.m, .int .i64 z.s, .string z.t, .bool z.lo, .bool z.hi, .slice z.A z.n z.c, .bool (v.toList == [91]), .bool (o.toList == [93]), .slice none 0 0] (by rfl) (run_load142 H35.out.2.2.2 (by rfl)) ?_) | (refine wpList_store_whole (by rfl) 142 (.tmp 2) (.tmp 45) (by rfl) w.heap.size _ #[.int .i64 3, .string ⟨#[]⟩, .int .i64 y.k, .bool y.b, .int .i64 y.m, .int .i64 y.s, .string y.t, .bool y.lo, .bool y.hi, .slice y.A y.n y.c, .int .i64 z.k, .bool z.b, .int .i64 z.m, .int .i64 z.s, .string z.t, .bool z.lo, .bool z.hi, .slice z.A z.n z.c, .bool (v.toList == [91]), .bool (o.toList == [93]), .slice none 0 0] 142 (by rfl) (by rfl) H35.out.2.2.1 (by kernel_rfl) (by rfl) (by simp [Value.oneCell']) ?_; intro w35e hst; have H36 : Hid (x.at w35e a8 ∧ x.kp w w35e ∧ w35e.heap[w.heap.size]? = some (.cells #[.int .i64 3, .string ⟨#[]⟩, .int .i64 y.k, .bool y.b, .int .i64 y.m, .int .i64 y.s, .string y.t, .bool y.lo, .bool y.hi, .slice y.A y.n y.c, .int .i64 z.k, .bool z.b, .int .i64 z.m, .int .i64 z.s, .string z.t, .bool z.lo, .bool z.hi, .slice z.A z.n z.c, .bool (v.toList == [91]), .bool (o.toList == [93]), .slice none 0 0] 142 (0, 0)) ∧ w35e.heap[b5]? = some (.cells #[.int .i64 3, .string ⟨#[]⟩, .int .i64 y.k, .bool y.b, .int .i64 y.m, .int .i64 y.s, .string y.t, .bool y.lo, .bool y.hi, .slice y.A y.n y.c, .int .i64 z.k, .bool z.b, .int .i64 z.m, .int .i64 z.s, .string z.t, .bool z.lo, .bool z.hi, .slice z.A z.n z.c, .bool (v.toList == [91]), .bool (o.toList == [93]), .slice none 0 0] 142 (0, 0))) := Lib.hid ⟨hst.at H35.out.1 hne (Nat.le_trans hge (Nat.le_refl _)), hst.kp H35.out.2.1 (Nat.le_refl _), hst.blk, hst.far H35.out.2.2.2 (by omega)⟩; clear hst))
    refine bodyPost_ret (results_cell_row rfl _ _ w.heap.size 142 _ (0, 0) _ rfl H36.out.2.2.1 Try.underlying142 rfl (by kernel_rfl)) rfl ?_
    exact ⟨⟨⟨_, _, ⟨_, _, _, _, _, _, _, _, _, _⟩, ⟨_, _, _, _, _, _, _, _, _, _⟩, _, _, _, _, _⟩, rfl⟩, a8, H36.out.1, H36.out.2.1⟩
end Go.Proofs.Ytaddhackggbdkaa
/-! The tests of a cell, read; condition: the reader stands on tokens that lie in an elder world. -/
namespace Go.Proofs.Ytaddhackggbdkaa
open Go.RowKit Go.Proofs.YtaddhackggbdkaaW.PrintLast
set_option maxRecDepth 100000
set_option linter.unusedSimpArgs false
/-- A row of tests came back. -/
def RetTs (e : Ending) : Prop := ∃ A n c, e = .returned (.slice A n c)
def Cx.tss (x : Cx) (w : World) (e : Ending) (w' : World) : Prop := RetTs e ∧ ∃ a', x.at w' a' ∧ x.kp w w'
theorem info142 : (Try.prog.info? 142).map (fun i => (i.zero, i.size, i.bytes)) = some (some (.agg #[.int .i64 0, .string ⟨#[]⟩, .int .i64 0, .bool false, .int .i64 0, .int .i64 0, .string ⟨#[]⟩, .bool false, .bool false, .slice none 0 0, .int .i64 0, .bool false, .int .i64 0, .int .i64 0, .string ⟨#[]⟩, .bool false, .bool false, .slice none 0 0, .bool false, .bool false, .slice none 0 0]), 21, 216) := by kernel_rfl
theorem cell21_new (w : World) (x0 x1 x2 x3 x4 x5 x6 x7 x8 x9 x10 x11 x12 x13 x14 x15 x16 x17 x18 x19 x20 : Value) (t : TypeId) : ∀ (j : Nat) (u : Value), [x0, x1, x2, x3, x4, x5, x6, x7, x8, x9, x10, x11, x12, x13, x14, x15, x16, x17, x18, x19, x20][j]? = some u → (w.alloc (.cells #[x0, x1, x2, x3, x4, x5, x6, x7, x8, x9, x10, x11, x12, x13, x14, x15, x16, x17, x18, x19, x20] t)).cell? ((⟨w.heap.size, 0, none⟩ : Addr).add j) = some u := fun j u hu => by
  rw [cell_at (heap_alloc_new w _)]
  simpa using hu
set_option maxHeartbeats 4000000 in
theorem tests7_any (x : Cx) (hx : x.ok) (w : World) (a : Nat) (h : x.at w a) :
    Calls Try.prog 74 #[.pointer (some ⟨x.g, 0, none⟩)] w fun e w' => x.tss w e w' := by
  obtain ⟨i0, hi0, hz0, hz1, hz2⟩ := parts_of_info info142
  have hB : ∀ i, w.heap.size ≤ i → i ≠ x.g ∧ x.w0.heap.size ≤ i := fun i hi => ⟨by have := h.lt; omega, Nat.le_trans h.old.size hi⟩
  have HX := Lib.hid h
  have HB := Lib.hid hB
  clear h hB
  go_enter Try.func74, Try.ntmps74
  go_wp2_with fail
  go_loopg [3] 7 (fun gk v wr => ∃ a' n A c, ∃ xs : List Value, v = .slice A n c ∧ n ≤ 6 ∧ 7 ≤ gk + n ∧ Hid (x.at wr a' ∧ x.kp w wr ∧ wr.ownsRow w.heap.size 142 21 (.slice A n c) n xs))
  case atStart => exact ⟨a, 0, none, 0, [], rfl, by omega, by omega, Lib.hid ⟨HX.out, Cx.kp.refl _ _, World.ownsRow_nil _ _ _ _⟩⟩
  case round =>
    obtain ⟨a', n, A, c, xs, rfl, hn, hgk, HR⟩ := hrel
    have HGK := Lib.hid hgk
    clear hgk
    by_cases h6 : (6 : Int) ≤ (n : Int)
    · go_wp2_with fail
      refine (fail7_any x hx wr a' 13 HR.out.1).mono ?_
      rintro e w2 ⟨rfl, h2, k2, he⟩
      obtain ⟨er, d3, hne⟩ := he (by decide)
      have H2 : Hid (x.at w2 a' ∧ x.kp w w2) := Lib.hid ⟨h2, HR.out.2.1.trans k2⟩
      clear h2 k2 he
      go_wp2_with fail
      go_ret
      exact ⟨⟨_, _, _, rfl⟩, a', H2.out.1, H2.out.2⟩
    · obtain ⟨en, er, po, hh, -, -, -, c3, -, -, -, -⟩ := HR.out.1.cells
      clear hh
      by_cases he : er = 0
      rotate_left
      · go_wp2_with fail
        go_ret
        exact ⟨⟨_, _, _, rfl⟩, a', HR.out.1, HR.out.2.1⟩
      subst he
      go_wp2_with fail
      clear c3
      refine (test7_any x hx wr a' HR.out.1).mono ?_
      rintro e w3 ⟨⟨u, rfl⟩, a3, h3, k3⟩
      have H3 : Hid (x.at w3 a3 ∧ x.kp w w3 ∧ w3.ownsRow w.heap.size 142 21 (.slice A n c) n xs) := Lib.hid ⟨h3, HR.out.2.1.trans k3, own_kp HR.out.2.2 (fun i hi => (HB.out i hi).1) k3⟩
      clear h3 k3
      have HNW : Hid (∀ (j : Nat) (q : Value), [.int .i64 u.k, .string u.r, .int .i64 u.y.k, .bool u.y.b, .int .i64 u.y.m, .int .i64 u.y.s, .string u.y.t, .bool u.y.lo, .bool u.y.hi, .slice u.y.A u.y.n u.y.c, .int .i64 u.z.k, .bool u.z.b, .int .i64 u.z.m, .int .i64 u.z.s, .string u.z.t, .bool u.z.lo, .bool u.z.hi, .slice u.z.A u.z.n u.z.c, .bool u.lo, .bool u.hi, .slice u.A u.n u.c][j]? = some q → (w3.alloc (.cells #[.int .i64 u.k, .string u.r, .int .i64 u.y.k, .bool u.y.b, .int .i64 u.y.m, .int .i64 u.y.s, .string u.y.t, .bool u.y.lo, .bool u.y.hi, .slice u.y.A u.y.n u.y.c, .int .i64 u.z.k, .bool u.z.b, .int .i64 u.z.m, .int .i64 u.z.s, .string u.z.t, .bool u.z.lo, .bool u.z.hi, .slice u.z.A u.z.n u.z.c, .bool u.lo, .bool u.hi, .slice u.A u.n u.c] 142)).cell? ((⟨w3.heap.size, 0, none⟩ : Addr).add j) = some q) := Lib.hid (cell21_new w3 _ _ _ _ _ _ _ _ _ _ _ _ _ _ _ _ _ _ _ _ _ 142)
      have HS3 : Hid (w.heap.size ≤ (w3.alloc (.cells #[.int .i64 u.k, .string u.r, .int .i64 u.y.k, .bool u.y.b, .int .i64 u.y.m, .int .i64 u.y.s, .string u.y.t, .bool u.y.lo, .bool u.y.hi, .slice u.y.A u.y.n u.y.c, .int .i64 u.z.k, .bool u.z.b, .int .i64 u.z.m, .int .i64 u.z.s, .string u.z.t, .bool u.z.lo, .bool u.z.hi, .slice u.z.A u.z.n u.z.c, .bool u.lo, .bool u.hi, .slice u.A u.n u.c] 142)).heap.size) := Lib.hid (Nat.le_trans H3.out.2.1.1 (by simp))
      go_wp2_with (at_builtin; refine wpList_append_own_at _ rfl _ _ 126 rfl w.heap.size 142 i0 (.agg #[.int .i64 0, .string ⟨#[]⟩, .int .i64 0, .bool false, .int .i64 0, .int .i64 0, .string ⟨#[]⟩, .bool false, .bool false, .slice none 0 0, .int .i64 0, .bool false, .int .i64 0, .int .i64 0, .string ⟨#[]⟩, .bool false, .bool false, .slice none 0 0, .bool false, .bool false, .slice none 0 0]) 21 216 Try.underlying126 hi0 hz0 hz1 hz2 rfl (by decide) _ _ _ rfl (H3.out.2.2.alloc _) ⟨w3.heap.size, 0, none⟩ 1 1 [.int .i64 u.k, .string u.r, .int .i64 u.y.k, .bool u.y.b, .int .i64 u.y.m, .int .i64 u.y.s, .string u.y.t, .bool u.y.lo, .bool u.y.hi, .slice u.y.A u.y.n u.y.c, .int .i64 u.z.k, .bool u.z.b, .int .i64 u.z.m, .int .i64 u.z.s, .string u.z.t, .bool u.z.lo, .bool u.z.hi, .slice u.z.A u.z.n u.z.c, .bool u.lo, .bool u.hi, .slice u.A u.n u.c] rfl rfl HNW.out (by simp [Value.oneCell']) (by unfold maxLen; omega) (by omega) HS3.out ?_; intro v' w4 ho4 hg4 _ _; have H4 : Hid (x.at w4 a3 ∧ x.kp w w4 ∧ w4.ownsRow w.heap.size 142 21 v' (n + 1) (xs ++ [.int .i64 u.k, .string u.r, .int .i64 u.y.k, .bool u.y.b, .int .i64 u.y.m, .int .i64 u.y.s, .string u.y.t, .bool u.y.lo, .bool u.y.hi, .slice u.y.A u.y.n u.y.c, .int .i64 u.z.k, .bool u.z.b, .int .i64 u.z.m, .int .i64 u.z.s, .string u.z.t, .bool u.z.lo, .bool u.z.hi, .slice u.z.A u.z.n u.z.c, .bool u.lo, .bool u.hi, .slice u.A u.n u.c])) := Lib.hid ⟨(H3.out.1.alloc _).grown hg4 (fun i e => HB.out i (own_lt H3.out.2.2 e).1), (H3.out.2.1.alloc _).grown hg4 (fun i e => (own_lt H3.out.2.2 e).1), ho4⟩; clear ho4 hg4; obtain ⟨A4, c4, hv4⟩ := own_sl H4.out.2.2; subst hv4)
      refine (take7_lit x hx w4 a3 H4.out.1 [⟨#[44]⟩] (by decide)).mono ?_
      rintro e w5 ⟨t, a5, rfl, -, h5, k5⟩
      have H5 : Hid (x.at w5 a5 ∧ x.kp w w5 ∧ w5.ownsRow w.heap.size 142 21 (.slice A4 (n + 1) c4) (n + 1) (xs ++ [.int .i64 u.k, .string u.r, .int .i64 u.y.k, .bool u.y.b, .int .i64 u.y.m, .int .i64 u.y.s, .string u.y.t, .bool u.y.lo, .bool u.y.hi, .slice u.y.A u.y.n u.y.c, .int .i64 u.z.k, .bool u.z.b, .int .i64 u.z.m, .int .i64 u.z.s, .string u.z.t, .bool u.z.lo, .bool u.z.hi, .slice u.z.A u.z.n u.z.c, .bool u.lo, .bool u.hi, .slice u.A u.n u.c])) := Lib.hid ⟨h5, H4.out.2.1.trans k5, own_kp H4.out.2.2 (fun i hi => (HB.out i hi).1) k5⟩
      clear h5 k5
      by_cases hc : t.toList = []
      · have hf : (t.toList == []) = true := by simpa using hc
        clear hc
        go_wp2_with fail
        go_ret
        exact ⟨⟨_, _, _, rfl⟩, a5, H5.out.1, H5.out.2.1⟩
      · have hf : (t.toList == []) = false := by simpa using hc
        clear hc
        go_wp2_with fail
        go_roundg (7 - (n + 1))
        case rel => exact ⟨a5, n + 1, A4, c4, _, rfl, by omega, by omega, H5⟩
        case measure => have := HGK.out; omega
end Go.Proofs.Ytaddhackggbdkaa
/-! A cell's text, read into tests: the document's answer comes to an end; no condition. -/
namespace Go.Proofs.Ytaddhackggbdkaa
open Go.RowKit Go.Proofs.YtaddhackggbdkaaW.PrintLast
set_option maxRecDepth 100000
set_option linter.unusedSimpArgs false
/-- A row of tests came back, where the text ends or the error stands, and the error. -/
def RetN (e : Ending) : Prop := ∃ A n c p f, e = .returned (.tuple #[.slice A n c, .int .i64 p, .int .i64 f])
theorem tok_first {W : World} {A : Option Addr} {l c : Nat} (h : Row W TokOk 3 A l c) (hl : 0 < l) :
    ∃ ad k t, A = some ad ∧ ∀ w, Below W.heap.size W w → w.cell? ad = some (.int .i64 k) ∧ w.cell? ⟨ad.block, ad.off + 1, none⟩ = some (.string t) := by
  obtain ⟨ad, cs, e, ⟨k, t, p, rfl, _⟩, hc⟩ := h.get hl
  refine ⟨ad, k, t, e, fun w hb => ⟨?_, ?_⟩⟩
  · have := hc w hb 0 _ rfl
    rwa [Nat.zero_mul, Nat.add_zero, Addr.add_zero'] at this
  · have := hc w hb 1 _ rfl
    rwa [add_fld _ _ 1 (by omega), Nat.zero_mul, Addr.add_zero'] at this
theorem tok_second {W : World} {A : Option Addr} {l c : Nat} (h : Row W TokOk 3 A l c) (hl : 1 < l) :
    ∃ ad k t, A = some ad ∧ ∀ w, Below W.heap.size W w → w.cell? ⟨ad.block, ad.off + 3, none⟩ = some (.int .i64 k) ∧ w.cell? ⟨ad.block, ad.off + 3 + 1, none⟩ = some (.string t) ∧ w.cell? ⟨ad.block, ad.off + 4, none⟩ = some (.string t) := by
  obtain ⟨ad, cs, e, ⟨k, t, p, rfl, _⟩, hc⟩ := h.get hl
  have h3 : ad.add 3 = ⟨ad.block, ad.off + 3, none⟩ := by simp [Addr.add]
  have h4 : ad.add 4 = ⟨ad.block, ad.off + 4, none⟩ := by simp [Addr.add]
  refine ⟨ad, k, t, e, fun w hb => ?_⟩
  have e0 := hc w hb 0 _ rfl
  have e1 := hc w hb 1 _ rfl
  rw [Nat.one_mul, Nat.add_zero, h3] at e0
  rw [Nat.one_mul, h4] at e1
  exact ⟨e0, e1, e1⟩
set_option maxHeartbeats 4000000 in
theorem parse7_any (s : ByteArray) (w : World) : Calls Try.prog 65 #[.string s] w fun e w' => RetN e ∧ Below w.heap.size w w' := by
  go_enter Try.func65, Try.ntmps65
  go_wp2_with fail
  refine (lex_any s w).mono ?_
  rintro e w2 ⟨⟨A, l, c, n, f, rfl, hl, hr⟩, hb2⟩
  have HR := Lib.hid hr
  have HB2 := Lib.hid hb2
  clear hb2 hr
  by_cases hf : f = 0
  rotate_left
  · go_wp2_with fail
    go_ret3
    exact ⟨⟨_, _, _, _, _, rfl⟩, HB2.out⟩
  subst hf
  go_upto_region 4 with fail
  go_cut [36] from 11 (fun s36 wx => (∃ b, s36 = .bool b) ∧ w2 = wx)
  case first =>
    by_cases h1 : l = 1
    · subst h1
      obtain ⟨ad, k, t, e, hc⟩ := tok_first HR.out (by omega)
      obtain ⟨d0, d1⟩ := hc w2 (Below.refl _ _)
      subst e
      clear hc
      go_wp2_with fail
      all_goals (go_meet; exact ⟨⟨_, rfl⟩, rfl⟩)
    · go_wp2_with fail
      all_goals (go_meet; exact ⟨⟨_, rfl⟩, rfl⟩)
  case rest =>
    obtain ⟨⟨b, rfl⟩, rfl⟩ := hcut
    cases b
    rotate_left
    · go_wp2_with fail
      go_ret3
      exact ⟨⟨_, _, _, _, _, rfl⟩, by have hb := HB2.out; have := hb.size; go_grown⟩
    go_upto_region 8 with fail
    obtain ⟨x, ex⟩ : ∃ x : Cx, x = ⟨145, w2, w2.heap.size, A, l, c⟩ := ⟨_, rfl⟩
    have hg : w2.heap.size = x.g := by rw [ex]
    have hx : x.ok := by
      rw [ex]
      exact ⟨HR.out, hl, Nat.le_refl _⟩
    have hxl : x.l = l := by rw [ex]
    have hxw : x.w0 = w2 := by rw [ex]
    have H3 : Hid (x.at (w2.alloc (.cells #[.slice A l c, .int .i64 0, .int .i64 n, .int .i64 0, .int .i64 0] 145)) 0) := Lib.hid (by
      refine ⟨n, 0, 0, ?_, Nat.zero_le _, ?_⟩
      · rw [← hg, ex]
        exact heap_alloc_new w2 _
      · rw [hxw]
        exact (Below.refl _ _).alloc (Nat.le_refl _) _)
    generalize w2.alloc (.cells #[.slice A l c, .int .i64 0, .int .i64 n, .int .i64 0, .int .i64 0] 145) = W3 at H3 ⊢
    try rw [hg]
    clear ex hg
    have HXL := Lib.hid hxl
    have HXW := Lib.hid hxw
    clear hxl hxw
    go_cut [74] from 11 (fun s74 wx => (∃ b : Bool, s74 = .bool b ∧ (b = true → 2 ≤ l)) ∧ W3 = wx)
    case first =>
      by_cases h2 : 2 ≤ l
      rotate_left
      · have h2' : ¬ (2 : Int) ≤ (l : Int) := by omega
        go_wp2_with fail
        all_goals (go_meet; exact ⟨⟨_, rfl, fun h => by first | exact h2 | cases h⟩, rfl⟩)
      have h2' : (2 : Int) ≤ (l : Int) := by omega
      obtain ⟨ad, k0, t0, e, hc0⟩ := tok_first HR.out (by omega)
      obtain ⟨ad', k1, t1, e', hc1⟩ := tok_second HR.out (by omega)
      rw [e] at e'
      injection e' with e'
      subst e'
      subst e
      have hb3 : Below w2.heap.size w2 W3 := by have := H3.out.old; rwa [HXW.out] at this
      obtain ⟨d0, d1⟩ := hc0 W3 hb3
      obtain ⟨d2, d3, d4⟩ := hc1 W3 hb3
      clear hb3 hc0 hc1
      go_wp2_with fail
      all_goals (go_meet; exact ⟨⟨_, rfl, fun _ => h2⟩, rfl⟩)
    case rest =>
    obtain ⟨⟨b, rfl, h2⟩, rfl⟩ := hcut
    go_upto_if 74 with fail
    go_cut [9] from 11 (fun s9 wx => (∃ B m d, s9 = .slice B m d) ∧ ∃ a, x.at wx a)
    case first =>
      cases b
      · go_wp2_with fail
        refine (tests7_any x hx _ 0 H3.out).mono ?_
        rintro e w4 ⟨⟨B, m, d, rfl⟩, a4, h4, k4⟩
        have H4 := Lib.hid h4
        clear h4 k4
        go_wp2_with fail
        go_meet
        exact ⟨⟨_, _, _, rfl⟩, a4, H4.out⟩
      have h2 := h2 rfl
      obtain ⟨en, er, po, hh, -, g1, -, -, -, gf1, -, -⟩ := H3.out.cells
      clear hh
      have H5 : Hid (x.at (W3.setCell ⟨x.g, 1, none⟩ (.int .i64 2)) 2) := Lib.hid (H3.out.set1 hx 2 (by rw [HXL.out]; exact h2))
      go_upto_region 10 with fail
      generalize W3.setCell ⟨x.g, 1, none⟩ (.int .i64 2) = W5 at H5 ⊢
      clear g1 gf1 H3
      go_wp2_with fail
      refine (tests7_any x hx W5 2 H5.out).mono ?_
      rintro e w6 ⟨⟨B, m, d, rfl⟩, a6, h6, k6⟩
      have H6 : Hid (∀ o, x.at (w6.alloc o) a6) := Lib.hid (fun o => h6.alloc o)
      clear h6 k6
      go_upto_region 11 with fail
      have H7 := Lib.hid (H6.out (.cells #[.int .i64 4, .string ⟨#[]⟩, .int .i64 0, .bool false, .int .i64 0, .int .i64 0, .string ⟨#[]⟩, .bool false, .bool false, .slice none 0 0, .int .i64 0, .bool false, .int .i64 0, .int .i64 0, .string ⟨#[]⟩, .bool false, .bool false, .slice none 0 0, .bool false, .bool false, .slice B m d] 142))
      generalize w6.alloc (.cells #[.int .i64 4, .string ⟨#[]⟩, .int .i64 0, .bool false, .int .i64 0, .int .i64 0, .string ⟨#[]⟩, .bool false, .bool false, .slice none 0 0, .int .i64 0, .bool false, .int .i64 0, .int .i64 0, .string ⟨#[]⟩, .bool false, .bool false, .slice none 0 0, .bool false, .bool false, .slice B m d] 142) = w7 at H7 ⊢
      clear H6
      go_wp2_with fail
      refine (take7_lit x hx w7 a6 H7.out [⟨#[41]⟩] (by decide)).mono ?_
      rintro e w8 ⟨t, a8, rfl, -, h8, k8⟩
      have H8 := Lib.hid h8
      clear h8 k8
      by_cases ht : t.toList = []
      · have hq : (t.toList == []) = true := by simpa using ht
        clear ht
        go_wp2_with fail
        refine (fail7_any x hx w8 a8 2 H8.out).mono ?_
        rintro e w9 ⟨rfl, h9, k9, -⟩
        have H9 := Lib.hid h9
        clear h9 k9
        go_wp2_with fail
        go_meet
        exact ⟨⟨_, _, _, rfl⟩, a8, H9.out⟩
      · have hq : (t.toList == []) = false := by simpa using ht
        clear ht
        go_wp2_with fail
        go_meet
        exact ⟨⟨_, _, _, rfl⟩, a8, H8.out⟩
    case rest =>
      obtain ⟨⟨B, m, d, rfl⟩, a, ha⟩ := hcut
      have HA := Lib.hid ha
      clear ha H3
      go_upto_region 14 with fail
      go_cut [96] from 11 (fun s96 wx => (∃ b, s96 = .bool b) ∧ wc = wx)
      case first =>
        obtain ⟨en, er, po, hh, -, g1, -, -, -, -, -, -⟩ := HA.out.cells
        clear hh
        go_wp2_with fail
        all_goals (go_meet; exact ⟨⟨_, rfl⟩, rfl⟩)
      case rest =>
      obtain ⟨⟨b, rfl⟩, rfl⟩ := hcut
      go_upto_if 96 with fail
      go_cut [] from 11 (fun wx => ∃ a, x.at wx a)
      case first =>
        cases b
        · go_wp2_with fail
          go_meet
          exact ⟨a, HA.out⟩
        · go_wp2_with fail
          refine (fail7_any x hx _ a 2 HA.out).mono ?_
          rintro e w9 ⟨rfl, h9, k9, -⟩
          have H9 := Lib.hid h9
          clear h9 k9
          go_wp2_with fail
          go_meet
          exact ⟨a, H9.out⟩
      case rest =>
        obtain ⟨a, ha⟩ := hcut
        have HB : Hid (Below w.heap.size w wc) := Lib.hid (by
          have := ha.old
          rw [HXW.out] at this
          exact HB2.out.trans (this.mono HB2.out.size))
        obtain ⟨en, er, po, hh, -, -, -, g3, g4, -, -, -⟩ := ha.cells
        clear hh ha HA
        by_cases he : er = 0
        · subst he
          go_wp2_with fail
          go_ret3
          exact ⟨⟨_, _, _, _, _, rfl⟩, HB.out⟩
        · go_wp2_with fail
          go_quiet (fail)
          have HB4 := Lib.hid (below_drewN HB.out nq)
          generalize World.drewN _ nq = w4 at HB4 ⊢
          go_wp2_with fail
          go_ret3
          exact ⟨⟨_, _, _, _, _, rfl⟩, HB4.out⟩
end Go.Proofs.Ytaddhackggbdkaa
