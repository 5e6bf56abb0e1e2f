/- Index.Get and Len, walked; conditions: the index lies in the world. -/
import Derived.Test.YtaddhackggbdkaaClone
import Derived.Test.YtaddhackggbdkaaAdd23
import Derived.Test.YtaddhackggbdkaaAdd36
namespace Go.Proofs.Ytaddhackggbdkaa
open Go.RowKit Go.Maps Go.Proofs.YtaddhackggbdkaaW.PrintWords Go.Proofs.YtaddhackggbdkaaW.PrintLast Go.Proofs.YtaddhackggbdkaaW.PrintMore PHistTells
/-- What a key's slice is, in what comes of the world by new blocks alone. -/
theorem IxAt.look {w : World} {k T mt : TypeId} {fv : Value} {F : Nat → Prop} {B ib mb : Nat} {key : S39 → Lit} {l : List S39} {V : Lit → Value} {kv : Value} {kl : Lit} (h : IxAt w k T fv F B ib key l mb V) (K : Keyed Try.prog k) (ht : Try.prog.underlying mt = some (.map k 22)) (hk : keyOf Try.prog k kv = some kl) :
    ∃ A c, V kl = .slice A (grp key l kl).length c ∧ (A = none → c = 0) ∧ ∀ w', Below w.heap.size w w' → Rd w' A (grp key l kl) ∧ (Instr.lookup mt (.map (some mb)) kv false).run Try.prog w' = .ok (.slice A (grp key l kl).length c) w' := by
  obtain ⟨A, c, hV, _, hrd, hz⟩ := (h.own kl).shape
  refine ⟨A, c, hV, hz, fun w' hb => ⟨hrd.below hb, ?_⟩⟩
  have := (h.below hb).mp.look K ht (zero22 w') hk
  rw [hV] at this
  exact this
theorem three_below {w w2 : World} {p q : Addr} {r : Addr} {a b c : Value} (h : w.cell? p = some a ∧ w.cell? q = some b ∧ w.cell? r = some c) (hb : Below w.heap.size w w2) : w2.cell? p = some a ∧ w2.cell? q = some b ∧ w2.cell? r = some c :=
  ⟨cell_below hb (lt_of_cell h.1) h.1, cell_below hb (lt_of_cell h.2.1) h.2.1, cell_below hb (lt_of_cell h.2.2) h.2.2⟩
set_option maxRecDepth 100000 in
set_option maxHeartbeats 1000000 in
theorem get40 (ib mb B : Nat) (fv : Value) (F : Nat → Prop) (l : List S39) (V : Lit → Value) (b : Bool) (n : Int) (w : World) (h : IxAt w 63 101 fv F B ib key36 l mb V) (hw : (Lit.int .i64 n).wf = true) (hl : l.length ≤ 1000) :
    Calls Try.prog 40 #[.pointer (some ⟨ib, 0, none⟩), .agg #[.bool b, .int .i64 n]] w fun e w' => ∃ v, e = .returned v ∧ Own w' w.heap.size v (grp key36 l (subLit b n)) ∧ Below w.heap.size w w' := by
  obtain ⟨A, c, hV, hz, hlk⟩ := h.look law63 Try.underlying99 (keyOf_sub b n hw)
  have hgl := Nat.le_trans (grp_len key36 l (subLit b n)) hl
  generalize grp key36 l (subLit b n) = p at *
  obtain ⟨W1, hW1⟩ : ∃ W1, w.alloc (.cells #[.bool b, .int .i64 n] 63) = W1 := ⟨_, rfl⟩
  have HB1 : Hid (Below w.heap.size w W1) := Lib.hid (by rw [← hW1]; exact (Below.refl _ _).alloc (Nat.le_refl _) _)
  have hbx : W1.heap[w.heap.size]? = some (.cells #[.bool b, .int .i64 n] 63 (0, 0)) := by rw [← hW1]; exact heap_alloc_new w _
  have HS : Hid (W1.drew.cell? ⟨ib, 1, none⟩ = some (.map (some mb)) ∧ W1.drew.cell? ⟨w.heap.size, 0, none⟩ = some (.bool b) ∧ W1.drew.cell? ⟨w.heap.size, 1, none⟩ = some (.int .i64 n)) := Lib.hid ⟨cell_of (h.below HB1.out).hd 1, cell_of hbx 0, cell_of hbx 1⟩
  have hl2 := (hlk W1.drew HB1.out.drew).2
  have HR := Lib.hid (hlk W1.drew HB1.out.drew).1
  clear hbx hlk hV h hw
  go_enter Try.func40, Try.ntmps40
  go_wp2_with fail
  go_region_held3 (fun w' => w'.cell? ⟨ib, 1, none⟩ = some (.map (some mb)) ∧ w'.cell? ⟨w.heap.size, 0, none⟩ = some (.bool b) ∧ w'.cell? ⟨w.heap.size, 1, none⟩ = some (.int .i64 n))
    (first | exact HS.out | exact H2.out.2)
    (first
    | (go_at_call 38; refine (clone_calls A c p _ HR.out hz hgl).mono ?_; rintro e w2 ⟨v, rfl, ho, hb2⟩; have H2 := Lib.hid (And.intro (And.intro ho hb2) (three_below HS.out hb2)); clear ho hb2))
  go_wp2_with fail
  go_ret
  exact ⟨_, rfl, H2.out.1.1.weak HB1.out.size, HB1.out.drew.trans (H2.out.1.2.mono HB1.out.size)⟩
set_option maxRecDepth 100000 in
set_option maxHeartbeats 1000000 in
theorem get25 (ib mb B : Nat) (fv : Value) (F : Nat → Prop) (key : S39 → Lit) (l : List S39) (V : Lit → Value) (n : Int) (w : World) (h : IxAt w 3 73 fv F B ib key l mb V) (hw : (Lit.int .i64 n).wf = true) (hl : l.length ≤ 1000) :
    Calls Try.prog 25 #[.pointer (some ⟨ib, 0, none⟩), .int .i64 n] w fun e w' => ∃ v, e = .returned v ∧ Own w' w.heap.size v (grp key l (.int .i64 n)) ∧ Below w.heap.size w w' := by
  obtain ⟨A, c, hV, hz, hlk⟩ := h.look law3 Try.underlying71 (keyOf_int_mk Try.underlying3 hw)
  have hgl := Nat.le_trans (grp_len key l (.int .i64 n)) hl
  generalize grp key l (.int .i64 n) = p at *
  have c1 := cell_of h.hd 1
  have hl2 := (hlk w (Below.refl _ _)).2
  have HR := Lib.hid (hlk w (Below.refl _ _)).1
  clear hlk hV h hw
  go_enter Try.func25, Try.ntmps25
  go_wp2_with fail
  refine (clone_calls A c p _ HR.out hz hgl).mono ?_
  rintro e w2 ⟨v, rfl, ho, hb2⟩
  have H2 := Lib.hid (And.intro ho hb2)
  clear ho hb2 hl2 c1
  go_wp2_with fail
  go_ret
  exact ⟨_, rfl, H2.out⟩
theorem len27 (ib mb B : Nat) (fv : Value) (F : Nat → Prop) (key : S39 → Lit) (l : List S39) (V : Lit → Value) (w : World) (h : IxAt w 3 73 fv F B ib key l mb V) :
    Calls Try.prog 27 #[.pointer (some ⟨ib, 0, none⟩)] w fun e w' => e = .returned (.int .i64 (l.length : Int)) ∧ w' = w := by
  have c2 := cell_of h.hd 2
  clear h
  go_enter Try.func27, Try.ntmps27
  go_wp2_with fail
  go_ret
  exact ⟨rfl, rfl⟩
end Go.Proofs.Ytaddhackggbdkaa
