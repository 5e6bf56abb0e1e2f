/- New of a Box, walked. -/
import Derived.Test.YtadcdnenecmbgaaBoxA
import Derived.Outline
namespace Go.Proofs.Ytadcdnenecmbgaa
open Go.Conc Go.RowKit

theorem bytes3 : ∃ i, Try.prog.info? 3 = some i ∧ i.bytes = 8 := by
  have h : (Try.prog.info? 3).map (·.bytes) = some 8 := by kernel_rfl
  obtain ⟨i, hi, hb⟩ := Option.map_eq_some_iff.1 h
  exact ⟨i, hi, hb⟩
theorem bytes9 : ∃ i, Try.prog.info? 9 = some i ∧ i.bytes = 16 := by
  have h : (Try.prog.info? 9).map (·.bytes) = some 16 := by kernel_rfl
  obtain ⟨i, hi, hb⟩ := Option.map_eq_some_iff.1 h
  exact ⟨i, hi, hb⟩
theorem mkch_int (n : Nat) (h : n ≤ 1000) (w : World) : (Instr.makeChan 54 (.int .i64 (n : Int))).run Try.prog w = .ok (.chan (some w.heap.size)) (w.alloc (.chan n #[] false 0 0 false)) := by
  obtain ⟨i, hi, hb⟩ := bytes3
  exact run_makeChan (P := Try.prog) (w := w) Try.underlying54 hi .i64 n (by omega) (by rw [hb]; omega)
theorem mkch_str (n : Nat) (h : n ≤ 1000) (w : World) : (Instr.makeChan 57 (.int .i64 (n : Int))).run Try.prog w = .ok (.chan (some w.heap.size)) (w.alloc (.chan n #[] false 0 0 false)) := by
  obtain ⟨i, hi, hb⟩ := bytes9
  exact run_makeChan (P := Try.prog) (w := w) Try.underlying57 hi .i64 n (by omega) (by rw [hb]; omega)

theorem new_int (n : Nat) (h : n ≤ 1000) (w : World) :
    Calls Try.prog 8 #[.int .i64 (n : Int)] w fun e w' => e = .returned (.pointer (some ⟨w.heap.size + 1, 0, none⟩)) ∧ (w.alloc (.chan n #[] false 0 0 false)).alloc (.cells #[.chan (some w.heap.size)] 56) = w' := by
  have hm := mkch_int n h
  go_enter Try.func8, Try.ntmps8
  go_wp2
  go_ret
  exact ⟨rfl, rfl⟩
theorem mkch_zero (w : World) : (Instr.makeChan 54 (.int .i64 0)).run Try.prog w = .ok (.chan (some w.heap.size)) (w.alloc (.chan 0 #[] false 0 0 false)) := mkch_int 0 (by omega) w
theorem new_neg (x : Int) (h : x ≤ 0) (w : World) :
    Calls Try.prog 8 #[.int .i64 x] w fun e w' => e = .returned (.pointer (some ⟨w.heap.size + 1, 0, none⟩)) ∧ (w.alloc (.chan 0 #[] false 0 0 false)).alloc (.cells #[.chan (some w.heap.size)] 56) = w' := by
  have hm := mkch_zero
  by_cases h0 : x = 0
  · subst h0
    go_enter Try.func8, Try.ntmps8
    go_wp2
    go_ret
    exact ⟨rfl, rfl⟩
  · have hx : x < 0 := by omega
    clear h0 h
    go_enter Try.func8, Try.ntmps8
    go_wp2
    go_ret
    exact ⟨rfl, rfl⟩
theorem new_str (n : Nat) (h : n ≤ 1000) (w : World) :
    Calls Try.prog 13 #[.int .i64 (n : Int)] w fun e w' => e = .returned (.pointer (some ⟨w.heap.size + 1, 0, none⟩)) ∧ (w.alloc (.chan n #[] false 0 0 false)).alloc (.cells #[.chan (some w.heap.size)] 59) = w' := by
  have hm := mkch_str n h
  go_enter Try.func13, Try.ntmps13
  go_wp2
  go_ret
  exact ⟨rfl, rfl⟩
theorem new_two (w : World) :
    Calls Try.prog 8 #[.int .i64 2] w fun e w' => e = .returned (.pointer (some ⟨w.heap.size + 1, 0, none⟩)) ∧ (w.alloc (.chan 2 #[] false 0 0 false)).alloc (.cells #[.chan (some w.heap.size)] 56) = w' := new_int 2 (by omega) w

/-- A box with room for cap, in which L lies: its own block b, its channel's c. -/
def BoxAt (t : TypeId) (w : World) (b c cap : Nat) (L : List Value) : Prop :=
  b ≠ c ∧ w.heap[b]? = some (.cells #[.chan (some c)] t (0, 0)) ∧ ∃ s r, w.heap[c]? = some (.chan cap L.toArray false s r false)
/-- w' is w, but for the channel block c. -/
def ChanOnly (c : Nat) (w w' : World) : Prop := w'.heap.size = w.heap.size ∧ (∀ i, i ≠ c → w'.heap[i]? = w.heap[i]?) ∧ ∀ B, B ≤ c → Below B w w'
theorem chanOnly_set {w : World} {c : Nat} (cap : Nat) (buf : Array Value) (cl : Bool) (s r : Nat) (tm : Bool) : ChanOnly c w (w.setChan c cap buf cl s r tm) :=
  ⟨size_setChan _ _ _ _ _ _ _ _, fun i hi => by simp [World.setChan, Array.getElem?_setIfInBounds_ne (Ne.symm hi)], fun B hB => below_setChan (Below.refl _ _) hB _ _ _ _ _ _⟩
theorem chanOnly_refl (c : Nat) (w : World) : ChanOnly c w w := ⟨rfl, fun _ _ => rfl, fun _ _ => Below.refl _ _⟩
theorem BoxAt.set {t : TypeId} {w : World} {b c cap : Nat} {L : List Value} (h : BoxAt t w b c cap L) (L' : List Value) (s r : Nat) : BoxAt t (w.setChan c cap L'.toArray false s r false) b c cap L' := by
  obtain ⟨hne, hb, s0, r0, hc⟩ := h
  have hlt : c < w.heap.size := by
    have := Array.getElem?_eq_some_iff.1 hc
    exact this.1
  exact ⟨hne, by rw [(chanOnly_set cap L'.toArray false s r false).2.1 b hne]; exact hb, s, r, heap_setChan _ _ _ _ _ _ _ _ hlt⟩
theorem BoxAt.other {t : TypeId} {w w' : World} {b c d cap : Nat} {L : List Value} (h : BoxAt t w b c cap L) (k : ChanOnly d w w') (h1 : b ≠ d) (h2 : c ≠ d) : BoxAt t w' b c cap L := by
  obtain ⟨hne, hb, s0, r0, hc⟩ := h
  exact ⟨hne, by rw [k.2.1 b h1]; exact hb, s0, r0, by rw [k.2.1 c h2]; exact hc⟩
theorem BoxAt.alloc {t : TypeId} {w : World} {b c cap : Nat} {L : List Value} (h : BoxAt t w b c cap L) (o : Obj) : BoxAt t (w.alloc o) b c cap L := by
  obtain ⟨hne, hb, s0, r0, hc⟩ := h
  have l1 := (Array.getElem?_eq_some_iff.1 hb).1
  have l2 := (Array.getElem?_eq_some_iff.1 hc).1
  exact ⟨hne, by rw [Below.heap_alloc _ _ _ l1]; exact hb, s0, r0, by rw [Below.heap_alloc _ _ _ l2]; exact hc⟩
theorem BoxAt.below {t : TypeId} {w w' : World} {B b c cap : Nat} {L : List Value} (h : BoxAt t w b c cap L) (k : Below B w w') (h1 : b < B) (h2 : c < B) : BoxAt t w' b c cap L := by
  obtain ⟨hne, hb, s0, r0, hc⟩ := h
  exact ⟨hne, by rw [k.block b h1]; exact hb, s0, r0, by rw [k.block c h2]; exact hc⟩
theorem boxAt_new (w : World) (t : TypeId) (n : Nat) : BoxAt t ((w.alloc (.chan n #[] false 0 0 false)).alloc (.cells #[.chan (some w.heap.size)] t)) (w.heap.size + 1) w.heap.size n [] := by
  refine ⟨by omega, ?_, 0, 0, ?_⟩
  · have := heap_alloc_new (w.alloc (.chan n #[] false 0 0 false)) (.cells #[.chan (some w.heap.size)] t)
    simpa only [World.size_alloc] using this
  · rw [Below.heap_alloc _ _ _ (by simp)]
    exact heap_alloc_new w _

def vals (l : List Int) : List Value := l.map (Value.int .i64)
theorem vals_length (l : List Int) : (vals l).length = l.length := by simp [vals]
theorem vals_snoc (l : List Int) (x : Int) : vals (l ++ [x]) = vals l ++ [Value.int .i64 x] := by simp [vals]
/-- What Put answers, and what it leaves. -/
theorem put_int (b c cap : Nat) (L : List Int) (x : Int) (w : World) (h : BoxAt 56 w b c cap (vals L)) :
    Calls Try.prog 9 #[.pointer (some ⟨b, 0, none⟩), .int .i64 x] w fun e w' => e = .returned (.bool (decide (L.length < cap))) ∧ BoxAt 56 w' b c cap (vals (if L.length < cap then L ++ [x] else L)) ∧ ChanOnly c w w' := by
  obtain ⟨hne, hb, s, r, hc⟩ := id h
  by_cases hl : L.length < cap
  · refine (put_room_int b c cap s r (vals L) x w hb hc (by rw [vals_length]; exact hl)).mono ?_
    rintro e w' ⟨rfl, rfl⟩
    rw [if_pos hl, vals_snoc]
    exact ⟨by rw [decide_eq_true hl], h.set _ _ _, chanOnly_set _ _ _ _ _ _⟩
  · refine (put_full_int b c cap s r (vals L) x w hb hc (by rw [vals_length]; omega)).mono ?_
    rintro e w' ⟨rfl, rfl⟩
    rw [if_neg hl]
    exact ⟨by rw [decide_eq_false hl], h, chanOnly_refl _ _⟩
/-- What Take answers, and what it leaves. -/
theorem take_int (b c cap : Nat) (L : List Int) (w : World) (h : BoxAt 56 w b c cap (vals L)) :
    Calls Try.prog 10 #[.pointer (some ⟨b, 0, none⟩)] w fun e w' => e = .returned (.tuple #[.int .i64 (L.headD 0), .bool (decide (0 < L.length))]) ∧ BoxAt 56 w' b c cap (vals L.tail) ∧ ChanOnly c w w' := by
  obtain ⟨hne, hb, s, r, hc⟩ := id h
  cases L with
  | nil =>
    refine (take_none_int b c cap s r w hb hc).mono ?_
    rintro e w' ⟨rfl, rfl⟩
    exact ⟨rfl, h, chanOnly_refl _ _⟩
  | cons x L =>
    refine (take_some_int b c cap s r (vals L) x w hb hc).mono ?_
    rintro e w' ⟨rfl, rfl⟩
    exact ⟨by simp, h.set _ _ _, chanOnly_set _ _ _ _ _ _⟩
theorem len_box (b c cap : Nat) (L : List Int) (w : World) (h : BoxAt 56 w b c cap (vals L)) :
    Calls Try.prog 11 #[.pointer (some ⟨b, 0, none⟩)] w fun e w' => e = .returned (.int .i64 (L.length : Nat)) ∧ w = w' := by
  obtain ⟨hne, hb, s, r, hc⟩ := id h
  have := len_int b c cap s r (vals L) w hb hc
  rwa [vals_length] at this

set_option maxHeartbeats 400000 in
/-- known: what is put first is taken first. -/
theorem known_true (w : World) : Calls Try.prog 12 #[] w fun e w' => e = .returned (.bool true) ∧ Below w.heap.size w w' := by
  go_enter Try.func12, Try.ntmps12
  go_wp2_with fail
  refine (new_two _).mono ?_
  rintro e w1 ⟨rfl, rfl⟩
  have hB : BoxAt 56 ((w.alloc (.chan 2 #[] false 0 0 false)).alloc (.cells #[.chan (some w.heap.size)] 56)) (w.heap.size + 1) w.heap.size 2 (vals []) := boxAt_new w 56 2
  have hbel : Below w.heap.size w ((w.alloc (.chan 2 #[] false 0 0 false)).alloc (.cells #[.chan (some w.heap.size)] 56)) := ((Below.refl _ _).alloc (Nat.le_refl _) _).alloc (by simp) _
  generalize (w.alloc (.chan 2 #[] false 0 0 false)).alloc (.cells #[.chan (some w.heap.size)] 56) = w1 at *
  go_wp2_with fail
  refine (put_int _ _ _ [] 1 _ hB).mono ?_
  rintro e w2 ⟨rfl, hB2, hO2⟩
  have hbel2 := hbel.trans (hO2.2.2 _ (Nat.le_refl _))
  clear hB hbel hO2
  go_wp2_with fail
  refine (put_int _ _ _ [1] 2 _ hB2).mono ?_
  rintro e w3 ⟨rfl, hB3, hO3⟩
  have hbel3 := hbel2.trans (hO3.2.2 _ (Nat.le_refl _))
  clear hB2 hbel2 hO3
  go_wp2_with fail
  refine (put_int _ _ _ [1, 2] 3 _ hB3).mono ?_
  rintro e w4 ⟨rfl, hB4, hO4⟩
  have hbel4 := hbel3.trans (hO4.2.2 _ (Nat.le_refl _))
  clear hB3 hbel3 hO4
  go_wp2_with fail
  refine (take_int _ _ _ [1, 2] _ hB4).mono ?_
  rintro e w5 ⟨rfl, hB5, hO5⟩
  have hbel5 := hbel4.trans (hO5.2.2 _ (Nat.le_refl _))
  clear hB4 hbel4 hO5
  go_wp2_with fail
  refine (len_box _ _ _ [2] _ hB5).mono ?_
  rintro e w6 ⟨rfl, rfl⟩
  go_wp2_with fail
  go_ret
  exact ⟨rfl, hbel5⟩
end Go.Proofs.Ytadcdnenecmbgaa
