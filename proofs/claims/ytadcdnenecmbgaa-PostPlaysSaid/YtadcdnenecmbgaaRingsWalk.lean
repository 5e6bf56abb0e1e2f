/- PostRings, walked: it answers true whatever the room and the list; conditions: the list's cells lie in the world, its bytes are within the form's reach. -/
import Derived.Test.YtadcdnenecmbgaaBoxB
import Derived.Test.YtadcdnenecmbgaaOpen
import Derived.Outline
import Derived.Lib.Hide
namespace Go.Proofs.Ytadcdnenecmbgaa
open Go.Conc Go.RowKit

/-- The numbers from f on, n of them. -/
def span (f n : Nat) : List Int := (List.range n).map fun i => ((f + i : Nat) : Int)
theorem span_length (f n : Nat) : (span f n).length = n := by simp [span]
theorem span_snoc (f n : Nat) : span f n ++ [(f : Int) + (n : Int)] = span f (n + 1) := by simp [span, List.range_succ]
theorem span_cons (f n : Nat) : span f (n + 1) = (f : Int) :: span (f + 1) n := by
  simp only [span, List.range_succ_eq_map, List.map_cons, List.map_map, Nat.add_zero]
  congr 1
  apply List.map_congr_left
  intro a _
  simp only [Function.comp]
  omega
theorem span_zero (f : Nat) : span f 0 = [] := rfl

theorem put_yes (b c cap : Nat) (L : List Int) (x : Int) (w : World) (h : BoxAt 56 w b c cap (vals L)) (hl : L.length < cap) :
    Calls Try.prog 9 #[.pointer (some ⟨b, 0, none⟩), .int .i64 x] w fun e w' => e = .returned (.bool true) ∧ BoxAt 56 w' b c cap (vals (L ++ [x])) ∧ ChanOnly c w w' :=
  (put_int b c cap L x w h).mono fun _ _ ⟨h1, h2, h3⟩ => ⟨by rw [h1, decide_eq_true hl], by rw [if_pos hl] at h2; exact h2, h3⟩
theorem put_no (b c cap : Nat) (L : List Int) (x : Int) (w : World) (h : BoxAt 56 w b c cap (vals L)) (hl : cap ≤ L.length) :
    Calls Try.prog 9 #[.pointer (some ⟨b, 0, none⟩), .int .i64 x] w fun e w' => e = .returned (.bool false) ∧ w = w' := by
  obtain ⟨hne, hb, s, r, hc⟩ := id h
  exact put_full_int b c cap s r (vals L) x w hb hc (by rw [vals_length]; omega)
theorem take_yes (b c cap : Nat) (L : List Int) (x : Int) (w : World) (h : BoxAt 56 w b c cap (vals (x :: L))) :
    Calls Try.prog 10 #[.pointer (some ⟨b, 0, none⟩)] w fun e w' => e = .returned (.tuple #[.int .i64 x, .bool true]) ∧ BoxAt 56 w' b c cap (vals L) ∧ ChanOnly c w w' :=
  (take_int b c cap (x :: L) w h).mono fun _ _ ⟨h1, h2, h3⟩ => ⟨by rw [h1]; simp, h2, h3⟩
theorem take_no (b c cap : Nat) (w : World) (h : BoxAt 56 w b c cap (vals [])) :
    Calls Try.prog 10 #[.pointer (some ⟨b, 0, none⟩)] w fun e w' => e = .returned (.tuple #[.int .i64 0, .bool false]) ∧ w = w' := by
  obtain ⟨hne, hb, s, r, hc⟩ := id h
  exact take_none_int b c cap s r w hb hc

theorem rings_early (room : Int) (a : Option Addr) (len cap : Nat) (w : World) (hlen : len * 8 ≤ 140737488351232) (h : room < 1 ∨ 50 < room ∨ 200 < len) :
    Calls Try.prog 3 #[.int .i64 room, .slice a len cap] w fun e w' => e = .returned (.bool true) ∧ Below w.heap.size w w' := by
  by_cases h1 : room < 1
  · go_enter Try.func3, Try.ntmps3
    go_wp2_with fail
    go_ret
    exact ⟨rfl, Below.refl _ _⟩
  · by_cases h2 : 50 < room
    · go_enter Try.func3, Try.ntmps3
      go_wp2_with fail
      go_ret
      exact ⟨rfl, Below.refl _ _⟩
    · have h3 : 200 < len := by omega
      go_enter Try.func3, Try.ntmps3
      go_wp2_with fail
      go_ret
      exact ⟨rfl, Below.refl _ _⟩

set_option maxHeartbeats 1000000 in
theorem rings_late (room : Nat) (a : Option Addr) (len cap : Nat) (z : Nat → Int) (w : World) (h1 : 1 ≤ room) (h2 : room ≤ 50) (h3 : len ≤ 200)
    (hc : ∀ i, i < len → (∃ ad, a = some ad ∧ ad.block < w.heap.size ∧ w.cell? (ad.add i) = some (.int .i64 (z i))) ∧ (Lit.int .i64 (z i)).wf = true) :
    Calls Try.prog 3 #[.int .i64 (room : Int), .slice a len cap] w fun e w' => e = .returned (.bool true) ∧ Below w.heap.size w w' := by
  have HC := Lib.hid hc
  clear hc
  go_enter Try.func3, Try.ntmps3
  go_wp2_with fail
  refine (new_int _ (by omega) _).mono ?_
  rintro e w1 ⟨rfl, rfl⟩
  have hB : BoxAt 56 ((w.alloc (.chan room #[] false 0 0 false)).alloc (.cells #[.chan (some w.heap.size)] 56)) (w.heap.size + 1) w.heap.size room (vals []) := boxAt_new w 56 room
  have hbel : Below w.heap.size w ((w.alloc (.chan room #[] false 0 0 false)).alloc (.cells #[.chan (some w.heap.size)] 56)) := ((Below.refl _ _).alloc (Nat.le_refl _) _).alloc (by simp) _
  generalize (w.alloc (.chan room #[] false 0 0 false)).alloc (.cells #[.chan (some w.heap.size)] 56) = w1 at *
  go_wp2_with fail
  go_loopw [6, 7, 8] (fun n f i wr => ∃ m fs k : Nat, k ≤ len ∧ i = .int .i64 k ∧ n = .int .i64 ((fs + m : Nat) : Int) ∧ f = .int .i64 fs ∧ fs + m ≤ k ∧ m ≤ room ∧ BoxAt 56 wr (w.heap.size + 1) w.heap.size room (vals (span fs m)) ∧ Below w.heap.size w wr)
    (fun _ _ i _ => len - (intOf i).toNat)
  case atStart => exact ⟨0, 0, 0, Nat.zero_le _, rfl, rfl, rfl, Nat.le_refl _, Nat.zero_le _, hB, hbel⟩
  case round =>
    clear hB hbel
    obtain ⟨m, fs, k, hk, rfl, rfl, rfl, hm, hmr, hBr, hbr⟩ := hrel
    by_cases hlt : k < len
    · obtain ⟨⟨ad, rfl, hb, hcell0⟩, -⟩ := HC.out k hlt
      have hcell := cell_below hbr (by rw [add_block]; exact hb) hcell0
      clear hcell0
      go_wp2_with fail
      · by_cases hr : m < room
        · refine (put_yes _ _ _ (span fs m) _ _ hBr (by rw [span_length]; exact hr)).mono ?_
          rintro e w2 ⟨rfl, hB2, hO2⟩
          rw [span_snoc] at hB2
          have hb2 := hbr.trans (hO2.2.2 _ (Nat.le_refl _))
          clear hO2 hBr hcell
          have hd : decide ((fs : Int) + (m : Int) - (fs : Int) < (room : Int)) = true := by simp; omega
          go_wp2_with fail
          clear hd
          refine (len_box _ _ _ (span fs (m + 1)) _ hB2).mono ?_
          rintro e w3 ⟨rfl, rfl⟩
          rw [span_length]
          go_wp2_with fail
          go_roundw
          case rel => exact ⟨m + 1, fs, k + 1, by omega, by go_num, by go_num, rfl, by omega, by omega, hB2, hb2⟩
          case measure => simp [intOf]; omega
        · refine (put_no _ _ _ (span fs m) _ _ hBr (by rw [span_length]; omega)).mono ?_
          rintro e w2 ⟨rfl, rfl⟩
          clear hcell
          have hd : decide ((fs : Int) + (m : Int) - (fs : Int) < (room : Int)) = false := by simp; omega
          go_wp2_with fail
          clear hd
          refine (len_box _ _ _ (span fs m) _ hBr).mono ?_
          rintro e w3 ⟨rfl, rfl⟩
          rw [span_length]
          go_wp2_with fail
          go_roundw
          case rel => exact ⟨m, fs, k + 1, by omega, by go_num, rfl, rfl, by omega, by omega, hBr, hbr⟩
          case measure => simp [intOf]; omega
      · cases m with
        | zero =>
          refine (take_no _ _ _ _ hBr).mono ?_
          rintro e w2 ⟨rfl, rfl⟩
          clear hcell
          go_wp2_with fail
          refine (len_box _ _ _ (span fs 0) _ hBr).mono ?_
          rintro e w3 ⟨rfl, rfl⟩
          rw [span_length]
          go_wp2_with fail
          go_roundw
          case rel => exact ⟨0, fs, k + 1, by omega, by go_num, rfl, rfl, by omega, by omega, hBr, hbr⟩
          case measure => simp [intOf]; omega
        | succ m =>
          rw [span_cons] at hBr
          refine (take_yes _ _ _ (span (fs + 1) m) _ _ hBr).mono ?_
          rintro e w2 ⟨rfl, hB2, hO2⟩
          have hb2 := hbr.trans (hO2.2.2 _ (Nat.le_refl _))
          clear hO2 hBr hcell
          go_wp2_with fail
          refine (len_box _ _ _ (span (fs + 1) m) _ hB2).mono ?_
          rintro e w3 ⟨rfl, rfl⟩
          rw [span_length]
          go_wp2_with fail
          go_roundw
          case rel => exact ⟨m, fs + 1, k + 1, by omega, by go_num, by go_num, by go_num, by omega, by omega, hB2, hb2⟩
          case measure => simp [intOf]; omega
    · go_wp2_with fail
      refine (known_true _).mono ?_
      rintro e w' ⟨rfl, hb'⟩
      go_wp2_with fail
      go_ret
      exact ⟨rfl, hbr.trans (hb'.mono hbr.size)⟩
theorem rings_walk (room : Int) (a : Option Addr) (len cap : Nat) (z : Nat → Int) (w : World) (_ : (Lit.int .i64 room).wf = true)
    (hc : ∀ i, i < len → (∃ ad, a = some ad ∧ ad.block < w.heap.size ∧ w.cell? (ad.add i) = some (.int .i64 (z i))) ∧ (Lit.int .i64 (z i)).wf = true) (hlen : len * 8 ≤ 140737488351232) :
    Calls Try.prog 3 #[.int .i64 room, .slice a len cap] w fun e w' => e = .returned (.bool true) ∧ Below w.heap.size w w' := by
  by_cases h : room < 1 ∨ 50 < room ∨ 200 < len
  · exact rings_early room a len cap w hlen h
  · obtain ⟨r, rfl⟩ := Int.eq_ofNat_of_zero_le (show 0 ≤ room by omega)
    exact rings_late r a len cap z w (by omega) (by omega) (by omega) hc
end Go.Proofs.Ytadcdnenecmbgaa
