/- Drain of a Box, walked: it answers all that lay in the box, in order, in new memory, and leaves the box empty; conditions: the box lies in the world and holds at most 1000. -/
import Derived.Test.YtadcdnenecmbgaaBoxB
import Derived.Test.YtadcdnenecmbgaaOpen
import Derived.Outline
import Derived.Lib.Hide
import Derived.WalkSmall
import Derived.Deep.LoopGhost
namespace Go.Proofs.Ytadcdnenecmbgaa
open Go.Conc Go.RowKit

theorem ChanOnly.grown {c : Nat} {w w' : World} (h : ChanOnly c w w') : w.grownBy w' (some c) :=
  have hb := h.2.2 0 (Nat.zero_le _)
  ⟨hb.os, hb.tape, hb.output, Nat.le_of_eq h.1.symm, fun i _ hne => h.2.1 i (fun e => hne (by rw [e]))⟩
theorem only_refl (w : World) (r : Option Nat) : w.grownBy w r := ⟨rfl, rfl, rfl, Nat.le_refl _, fun _ _ _ => rfl⟩
theorem only_same {a b d : World} {r : Option Nat} (h : a.grownBy b r) (k : b.grownBy d r) : a.grownBy d r :=
  ⟨k.os.trans h.os, k.tape.trans h.tape, k.output.trans h.output, Nat.le_trans h.size k.size, fun i hi hne => (k.block i (Nat.lt_of_lt_of_le hi h.size) hne).trans (h.block i hi hne)⟩
theorem only_new {a b d : World} {r q : Option Nat} (h : a.grownBy b r) (k : b.grownBy d q) (hq : ∀ i, q = some i → a.heap.size ≤ i) : a.grownBy d r :=
  ⟨k.os.trans h.os, k.tape.trans h.tape, k.output.trans h.output, Nat.le_trans h.size k.size, fun i hi hne => (k.block i (Nat.lt_of_lt_of_le hi h.size) (fun e => by have := hq i e.symm; omega)).trans (h.block i hi hne)⟩
theorem only_alloc {a b : World} {r : Option Nat} (h : a.grownBy b r) (o : Obj) : a.grownBy (b.alloc o) r :=
  ⟨h.os, h.tape, h.output, Nat.le_trans h.size (by simp), fun i hi hne => (Below.heap_alloc b o i (Nat.lt_of_lt_of_le hi h.size)).trans (h.block i hi hne)⟩
theorem below_only {B : Nat} {a w w' : World} {r : Option Nat} (h : Below B a w) (k : w.grownBy w' r) (hr : ∀ i, r = some i → B ≤ i) (hB : B ≤ w.heap.size) : Below B a w' :=
  h.trans ⟨k.os, k.tape, k.output, k.size, fun i hi => k.block i (by omega) (fun e => by have := hr i e.symm; omega)⟩
theorem BoxAt.grown {t : TypeId} {w w' : World} {b c cap : Nat} {L : List Value} {r : Option Nat} (h : BoxAt t w b c cap L) (k : w.grownBy w' r) (h1 : r ≠ some b) (h2 : r ≠ some c) : BoxAt t w' b c cap L := by
  obtain ⟨hne, hb, s0, r0, hc⟩ := h
  have l1 := (Array.getElem?_eq_some_iff.1 hb).1
  have l2 := (Array.getElem?_eq_some_iff.1 hc).1
  exact ⟨hne, by rw [k.block b l1 (Ne.symm h1)]; exact hb, s0, r0, by rw [k.block c l2 (Ne.symm h2)]; exact hc⟩
theorem BoxAt.lt {t : TypeId} {w : World} {b c cap : Nat} {L : List Value} (h : BoxAt t w b c cap L) : b < w.heap.size ∧ c < w.heap.size := by
  obtain ⟨_, hb, s0, r0, hc⟩ := h
  exact ⟨(Array.getElem?_eq_some_iff.1 hb).1, (Array.getElem?_eq_some_iff.1 hc).1⟩
theorem info3 : (Try.prog.info? 3).map (fun i => (i.zero, i.size, i.bytes)) = some (some (.int .i64 0), 1, 8) := by kernel_rfl
theorem info9 : (Try.prog.info? 9).map (fun i => (i.zero, i.size, i.bytes)) = some (some (.string ⟨#[]⟩), 1, 16) := by kernel_rfl
def svals (l : List ByteArray) : List Value := l.map Value.string
theorem svals_length (l : List ByteArray) : (svals l).length = l.length := by simp [svals]
theorem put_yes_str (b c cap : Nat) (L : List ByteArray) (x : ByteArray) (w : World) (h : BoxAt 59 w b c cap (svals L)) (hl : L.length < cap) :
    Calls Try.prog 14 #[.pointer (some ⟨b, 0, none⟩), .string x] w fun e w' => e = .returned (.bool true) ∧ BoxAt 59 w' b c cap (svals (L ++ [x])) ∧ ChanOnly c w w' := by
  obtain ⟨hne, hb, s, r, hc⟩ := id h
  refine (put_room_str b c cap s r (svals L) x w hb hc (by rw [svals_length]; exact hl)).mono ?_
  rintro e w' ⟨rfl, rfl⟩
  rw [show svals (L ++ [x]) = svals L ++ [Value.string x] by simp [svals]]
  exact ⟨rfl, h.set _ _ _, chanOnly_set _ _ _ _ _ _⟩
theorem put_no_str (b c cap : Nat) (L : List ByteArray) (x : ByteArray) (w : World) (h : BoxAt 59 w b c cap (svals L)) (hl : cap ≤ L.length) :
    Calls Try.prog 14 #[.pointer (some ⟨b, 0, none⟩), .string x] w fun e w' => e = .returned (.bool false) ∧ w = w' := by
  obtain ⟨hne, hb, s, r, hc⟩ := id h
  exact put_full_str b c cap s r (svals L) x w hb hc (by rw [svals_length]; omega)
theorem take_str (b c cap : Nat) (L : List ByteArray) (w : World) (h : BoxAt 59 w b c cap (svals L)) :
    Calls Try.prog 23 #[.pointer (some ⟨b, 0, none⟩)] w fun e w' => e = .returned (.tuple #[.string (L.headD ⟨#[]⟩), .bool (decide (0 < L.length))]) ∧ BoxAt 59 w' b c cap (svals L.tail) ∧ ChanOnly c w w' := by
  obtain ⟨hne, hb, s, r, hc⟩ := id h
  cases L with
  | nil =>
    refine (take_none_str b c cap s r w hb hc).mono ?_
    rintro e w' ⟨rfl, rfl⟩
    exact ⟨rfl, h, chanOnly_refl _ _⟩
  | cons x L =>
    refine (take_some_str b c cap s r (svals L) x w hb hc).mono ?_
    rintro e w' ⟨rfl, rfl⟩
    exact ⟨by simp, h.set _ _ _, chanOnly_set _ _ _ _ _ _⟩
theorem len_str_box (b c cap : Nat) (L : List ByteArray) (w : World) (h : BoxAt 59 w b c cap (svals L)) :
    Calls Try.prog 16 #[.pointer (some ⟨b, 0, none⟩)] w fun e w' => e = .returned (.int .i64 (L.length : Nat)) ∧ w = w' := by
  obtain ⟨hne, hb, s, r, hc⟩ := id h
  have := len_str b c cap s r (svals L) w hb hc
  rwa [svals_length] at this
theorem head_drop {α : Type} (L : List α) (k : Nat) (d : α) : (L.drop k).headD d = L.getD k d := by
  induction L generalizing k with
  | nil => simp
  | cons x L ih => cases k with
    | zero => rfl
    | succ k => simp
theorem tail_drop {α : Type} (L : List α) (k : Nat) : (L.drop k).tail = L.drop (k + 1) := by simp
theorem take_snoc_getD {α : Type} (L : List α) (k : Nat) (d : α) (h : k < L.length) : L.take k ++ [L.getD k d] = L.take (k + 1) := by
  rw [List.take_succ_eq_append_getElem h]
  simp [h]

set_option maxHeartbeats 1000000 in
/-- Drain: all that lay there, in order. -/
theorem drain_int (b c cap : Nat) (L : List Int) (w : World) (h : BoxAt 56 w b c cap (vals L)) (hL : L.length ≤ 1000) :
    Calls Try.prog 22 #[.pointer (some ⟨b, 0, none⟩)] w fun e w' => ∃ v, e = .returned v ∧ w'.ownsRow w.heap.size 3 1 v L.length (vals L) ∧ BoxAt 56 w' b c cap (vals []) ∧ w.grownBy w' (some c) := by
  obtain ⟨i0, hi, hz0, hz1, hz2⟩ := info_parts info3
  have HL := Lib.hid h.lt
  go_enter Try.func22, Try.ntmps22
  go_wp2_with fail
  refine (take_int b c cap L w h).mono ?_
  rintro e w1 ⟨rfl, hB1, hO1⟩
  have hG1 := hO1.grown
  clear hO1 h
  go_wp2_with fail
  go_loopg [3, 4, 5] L.length (fun g l v ok wr => ∃ k : Nat, k ≤ L.length ∧ g + k = L.length ∧ v = Value.int .i64 (L.getD k 0) ∧ ok = .bool (decide (k < L.length)) ∧ wr.ownsRow w.heap.size 3 1 l k (vals (L.take k)) ∧ BoxAt 56 wr b c cap (vals (L.drop (k + 1))) ∧ w.grownBy wr (some c))
  case atStart =>
    refine ⟨0, Nat.zero_le _, rfl, ?_, rfl, by simpa [vals] using World.ownsRow_nil _ _ _ _, by rw [← tail_drop]; exact hB1, hG1⟩
    cases L <;> rfl
  case round =>
    clear hB1 hG1
    obtain ⟨k, hk, hg, rfl, rfl, hown, hBr, hGr⟩ := hrel
    have HG := Lib.hid hg
    clear hg
    obtain ⟨x, hx⟩ : ∃ x, L.getD k 0 = x := ⟨_, rfl⟩
    have HX := Lib.hid hx
    rw [hx]
    clear hx
    have hw2 := hGr.size
    by_cases hlt : k < L.length
    · have hd : decide (k < L.length) = true := decide_eq_true hlt
      go_wp2_with (at_builtin; refine wpList_append_own _ rfl _ _ 22 rfl w.heap.size 3 i0 (Value.int .i64 0) 1 8 Try.underlying22 hi hz0 hz1 hz2 rfl (by decide) _ _ _ rfl (hown.alloc _) ⟨wr.heap.size, 0, none⟩ 1 1 [Value.int .i64 x] rfl rfl ?c1 ?c2 ?c3 ?c4 ?c5 ?_)
      case c1 =>
        intro j u hj
        match j, hj with
        | 0, hj => simp at hj; subst hj; simp [Addr.add]
      case c2 => intro u hu; simp at hu; subst hu; rfl
      case c3 => unfold maxLen; omega
      case c4 => omega
      case c5 => simp; omega
      · intro v' w2 hown2 hgrow2 _
        have hne : ∀ i, u3.ownBlock = some i → w.heap.size ≤ i := fun i hi => (hown.lt i hi).1
        have hG2 := only_new (only_alloc hGr _) hgrow2 hne
        have hB2 : BoxAt 56 w2 b c cap (vals (L.drop (k + 1))) := (hBr.alloc _).grown hgrow2 (fun e => by have := hne b e; have := HL.out.1; omega) (fun e => by have := hne c e; have := HL.out.2; omega)
        have hown3 : w2.ownsRow w.heap.size 3 1 v' (k + 1) (vals (L.take (k + 1))) := by
          rw [← take_snoc_getD L k 0 hlt, HX.out]
          simpa [vals] using hown2
        clear hne hgrow2 hown2 hown hBr hGr hd HX
        go_wp2_with fail
        refine (take_int b c cap _ w2 hB2).mono ?_
        rintro e w3 ⟨rfl, hB3, hO3⟩
        rw [tail_drop] at hB3
        have hG3 := only_same hG2 hO3.grown
        have hne3 : ∀ i, v'.ownBlock = some i → w.heap.size ≤ i := fun i hi => (hown3.lt i hi).1
        have hown4 := hown3.kept hO3.grown (.inr fun e => by have := hne3 c e; have := HL.out.2; omega)
        clear hO3 hne3 hown3 hG2 hB2
        rw [head_drop, List.length_drop]
        have hdd : decide (0 < L.length - (k + 1)) = decide (k + 1 < L.length) := by
          rw [Bool.eq_iff_iff]; simp; omega
        rw [hdd]
        clear hdd
        go_wp2_with fail
        go_roundg (L.length - (k + 1))
        case rel => exact ⟨k + 1, by omega, by omega, rfl, rfl, hown4, hB3, hG3⟩
        case measure => have := HG.out; omega
    · have hd : decide (k < L.length) = false := decide_eq_false hlt
      go_wp2_with fail
      go_ret
      obtain rfl : k = L.length := by omega
      rw [List.drop_eq_nil_of_le (by omega)] at hBr
      exact ⟨_, rfl, by simpa using hown, hBr, hGr⟩

set_option maxHeartbeats 1000000 in
/-- Drain: all that lay there, in order. -/
theorem drain_str (b c cap : Nat) (L : List ByteArray) (w : World) (h : BoxAt 59 w b c cap (svals L)) (hL : L.length ≤ 1000) :
    Calls Try.prog 15 #[.pointer (some ⟨b, 0, none⟩)] w fun e w' => ∃ v, e = .returned v ∧ w'.ownsRow w.heap.size 9 1 v L.length (svals L) ∧ BoxAt 59 w' b c cap (svals []) ∧ w.grownBy w' (some c) := by
  obtain ⟨i0, hi, hz0, hz1, hz2⟩ := info_parts info9
  have HL := Lib.hid h.lt
  go_enter Try.func15, Try.ntmps15
  go_wp2_with fail
  refine (take_str b c cap L w h).mono ?_
  rintro e w1 ⟨rfl, hB1, hO1⟩
  have hG1 := hO1.grown
  clear hO1 h
  go_wp2_with fail
  go_loopg [3, 4, 5] L.length (fun g l v ok wr => ∃ k : Nat, k ≤ L.length ∧ g + k = L.length ∧ v = Value.string (L.getD k ⟨#[]⟩) ∧ ok = .bool (decide (k < L.length)) ∧ wr.ownsRow w.heap.size 9 1 l k (svals (L.take k)) ∧ BoxAt 59 wr b c cap (svals (L.drop (k + 1))) ∧ w.grownBy wr (some c))
  case atStart =>
    refine ⟨0, Nat.zero_le _, rfl, ?_, rfl, by simpa [svals] using World.ownsRow_nil _ _ _ _, by rw [← tail_drop]; exact hB1, hG1⟩
    cases L <;> rfl
  case round =>
    clear hB1 hG1
    obtain ⟨k, hk, hg, rfl, rfl, hown, hBr, hGr⟩ := hrel
    have HG := Lib.hid hg
    clear hg
    obtain ⟨x, hx⟩ : ∃ x, L.getD k ⟨#[]⟩ = x := ⟨_, rfl⟩
    have HX := Lib.hid hx
    rw [hx]
    clear hx
    have hw2 := hGr.size
    by_cases hlt : k < L.length
    · have hd : decide (k < L.length) = true := decide_eq_true hlt
      go_wp2_with (at_builtin; refine wpList_append_own _ rfl _ _ 31 rfl w.heap.size 9 i0 (Value.string ⟨#[]⟩) 1 16 Try.underlying31 hi hz0 hz1 hz2 rfl (by decide) _ _ _ rfl (hown.alloc _) ⟨wr.heap.size, 0, none⟩ 1 1 [Value.string x] rfl rfl ?c1 ?c2 ?c3 ?c4 ?c5 ?_)
      case c1 =>
        intro j u hj
        match j, hj with
        | 0, hj => simp at hj; subst hj; simp [Addr.add]
      case c2 => intro u hu; simp at hu; subst hu; rfl
      case c3 => unfold maxLen; omega
      case c4 => omega
      case c5 => simp; omega
      · intro v' w2 hown2 hgrow2 _
        have hne : ∀ i, u3.ownBlock = some i → w.heap.size ≤ i := fun i hi => (hown.lt i hi).1
        have hG2 := only_new (only_alloc hGr _) hgrow2 hne
        have hB2 : BoxAt 59 w2 b c cap (svals (L.drop (k + 1))) := (hBr.alloc _).grown hgrow2 (fun e => by have := hne b e; have := HL.out.1; omega) (fun e => by have := hne c e; have := HL.out.2; omega)
        have hown3 : w2.ownsRow w.heap.size 9 1 v' (k + 1) (svals (L.take (k + 1))) := by
          rw [← take_snoc_getD L k ⟨#[]⟩ hlt, HX.out]
          simpa [svals] using hown2
        clear hne hgrow2 hown2 hown hBr hGr hd HX
        go_wp2_with fail
        refine (take_str b c cap _ w2 hB2).mono ?_
        rintro e w3 ⟨rfl, hB3, hO3⟩
        rw [tail_drop] at hB3
        have hG3 := only_same hG2 hO3.grown
        have hne3 : ∀ i, v'.ownBlock = some i → w.heap.size ≤ i := fun i hi => (hown3.lt i hi).1
        have hown4 := hown3.kept hO3.grown (.inr fun e => by have := hne3 c e; have := HL.out.2; omega)
        clear hO3 hne3 hown3 hG2 hB2
        rw [head_drop, List.length_drop]
        have hdd : decide (0 < L.length - (k + 1)) = decide (k + 1 < L.length) := by
          rw [Bool.eq_iff_iff]; simp; omega
        rw [hdd]
        clear hdd
        go_wp2_with fail
        go_roundg (L.length - (k + 1))
        case rel => exact ⟨k + 1, by omega, by omega, rfl, rfl, hown4, hB3, hG3⟩
        case measure => have := HG.out; omega
    · have hd : decide (k < L.length) = false := decide_eq_false hlt
      go_wp2_with fail
      go_ret
      obtain rfl : k = L.length := by omega
      rw [List.drop_eq_nil_of_le (by omega)] at hBr
      exact ⟨_, rfl, by simpa using hown, hBr, hGr⟩
end Go.Proofs.Ytadcdnenecmbgaa
