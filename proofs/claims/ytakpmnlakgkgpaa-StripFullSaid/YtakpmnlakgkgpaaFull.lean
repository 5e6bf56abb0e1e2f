/- StripFull, walked: it answers true whatever the room and the two sizes; no condition. -/
import Derived.Test.YtakpmnlakgkgpaaMake
namespace Go.Proofs.Ytakpmnlakgkgpaa
open Go.RowKit
theorem full_early (room a b : Int) (w : World) (h : room < 0 ∨ 500 < room ∨ a < 0 ∨ 500 < a ∨ b < 0 ∨ 500 < b) :
    Calls Try.prog 3 #[.int .i64 room, .int .i64 a, .int .i64 b] w fun e w' => e = .returned (.bool true) ∧ Below w.heap.size w w' := by
  rcases (show room < 0 ∨ (¬ room < 0 ∧ 500 < room) ∨ (¬ room < 0 ∧ ¬ 500 < room ∧ a < 0) ∨ (¬ room < 0 ∧ ¬ 500 < room ∧ ¬ a < 0 ∧ 500 < a) ∨ (¬ room < 0 ∧ ¬ 500 < room ∧ ¬ a < 0 ∧ ¬ 500 < a ∧ b < 0) ∨ (¬ room < 0 ∧ ¬ 500 < room ∧ ¬ a < 0 ∧ ¬ 500 < a ∧ ¬ b < 0 ∧ 500 < b) by omega) with
    h1 | ⟨h1, h2⟩ | ⟨h1, h2, h3⟩ | ⟨h1, h2, h3, h4⟩ | ⟨h1, h2, h3, h4, h5⟩ | ⟨h1, h2, h3, h4, h5, h6⟩
  all_goals
    clear h
    go_enter Try.func3, Try.ntmps3
    go_wp2_with fail
    go_ret
    exact ⟨rfl, Below.refl _ _⟩
set_option maxRecDepth 100000 in
set_option maxHeartbeats 2000000 in
theorem full_a (r a b : Nat) (w : World) (hr : r ≤ 500) (ha : a ≤ 500) (hb : b ≤ 500) (h1 : a ≤ r) (h2 : a + b ≤ r) :
    Calls Try.prog 3 #[.int .i64 (r : Int), .int .i64 (a : Int), .int .i64 (b : Int)] w fun e w' => e = .returned (.bool true) ∧ Below w.heap.size w w' := by
  have hmka := mk_bytes a (by omega)
  have hmkb := mk_bytes b (by omega)
  go_enter Try.func3, Try.ntmps3
  go_wp2_with fail
  refine (has_new w (r : Int) _ (Below.refl _ _)).mono ?_
  rintro e w1 ⟨q, rfl, h1', -⟩
  rw [nul_new r (by omega)] at h1'
  have H1 := Lib.hid h1'
  clear h1'
  go_wp2_with fail
  have hw := has_write_zer H1.out a (by omega)
  rw [nul_write _ _ _ _ (by omega)] at hw
  refine hw.mono ?_
  rintro e w2 ⟨rfl, h2'⟩
  have H2 := Lib.hid h2'
  clear h2' hw
  go_wp2_with fail
  have hw := has_write_zer H2.out b (by omega)
  rw [nul_write _ _ _ _ (by omega)] at hw
  refine hw.mono ?_
  rintro e w3 ⟨rfl, h3'⟩
  have H3 := Lib.hid h3'
  clear h3' hw
  go_wp2_with fail
  refine (has_read H3.out).mono ?_
  rintro e w4 ⟨x, c, rfl, -, h4, -⟩
  have H4 := Lib.hid h4
  clear h4
  simp only [nul_len]
  go_wp2_with fail
  refine (known_true _).mono ?_
  rintro e w5 ⟨rfl, hb5⟩
  have H5 := Lib.hid (H4.out.below hb5)
  clear hb5
  go_wp2_with fail
  go_ret
  refine ⟨?_, H5.out.bel⟩
  first | rfl | (show Ending.returned (Value.bool (!decide ((a : Int) + (b : Int) ≤ (r : Int)))) = _; rw [decide_eq_false (by omega)]; rfl)
set_option maxRecDepth 100000 in
set_option maxHeartbeats 2000000 in
theorem full_b (r a b : Nat) (w : World) (hr : r ≤ 500) (ha : a ≤ 500) (hb : b ≤ 500) (h1 : a ≤ r) (h2 : r < a + b) :
    Calls Try.prog 3 #[.int .i64 (r : Int), .int .i64 (a : Int), .int .i64 (b : Int)] w fun e w' => e = .returned (.bool true) ∧ Below w.heap.size w w' := by
  have hmka := mk_bytes a (by omega)
  have hmkb := mk_bytes b (by omega)
  go_enter Try.func3, Try.ntmps3
  go_wp2_with fail
  refine (has_new w (r : Int) _ (Below.refl _ _)).mono ?_
  rintro e w1 ⟨q, rfl, h1', -⟩
  rw [nul_new r (by omega)] at h1'
  have H1 := Lib.hid h1'
  clear h1'
  go_wp2_with fail
  have hw := has_write_zer H1.out a (by omega)
  rw [nul_write _ _ _ _ (by omega)] at hw
  refine hw.mono ?_
  rintro e w2 ⟨rfl, h2'⟩
  have H2 := Lib.hid h2'
  clear h2' hw
  go_wp2_with fail
  have hw := has_write_zer H2.out b (by omega)
  rw [nul_full _ _ _ _ (by omega)] at hw
  refine hw.mono ?_
  rintro e w3 ⟨rfl, h3'⟩
  have H3 := Lib.hid h3'
  clear h3' hw
  go_wp2_with fail
  refine (has_read H3.out).mono ?_
  rintro e w4 ⟨x, c, rfl, -, h4, -⟩
  have H4 := Lib.hid h4
  clear h4
  simp only [nul_len]
  go_wp2_with fail
  refine (known_true _).mono ?_
  rintro e w5 ⟨rfl, hb5⟩
  have H5 := Lib.hid (H4.out.below hb5)
  clear hb5
  go_wp2_with fail
  go_ret
  refine ⟨?_, H5.out.bel⟩
  first | rfl | (show Ending.returned (Value.bool (!decide ((a : Int) + (b : Int) ≤ (r : Int)))) = _; rw [decide_eq_false (by omega)]; rfl)
set_option maxRecDepth 100000 in
set_option maxHeartbeats 2000000 in
theorem full_c (r a b : Nat) (w : World) (hr : r ≤ 500) (ha : a ≤ 500) (hb : b ≤ 500) (h1 : r < a) (h2 : b ≤ r) :
    Calls Try.prog 3 #[.int .i64 (r : Int), .int .i64 (a : Int), .int .i64 (b : Int)] w fun e w' => e = .returned (.bool true) ∧ Below w.heap.size w w' := by
  have hmka := mk_bytes a (by omega)
  have hmkb := mk_bytes b (by omega)
  go_enter Try.func3, Try.ntmps3
  go_wp2_with fail
  refine (has_new w (r : Int) _ (Below.refl _ _)).mono ?_
  rintro e w1 ⟨q, rfl, h1', -⟩
  rw [nul_new r (by omega)] at h1'
  have H1 := Lib.hid h1'
  clear h1'
  go_wp2_with fail
  have hw := has_write_zer H1.out a (by omega)
  rw [nul_full _ _ _ _ (by omega)] at hw
  refine hw.mono ?_
  rintro e w2 ⟨rfl, h2'⟩
  have H2 := Lib.hid h2'
  clear h2' hw
  go_wp2_with fail
  have hw := has_write_zer H2.out b (by omega)
  rw [nul_write _ _ _ _ (by omega)] at hw
  refine hw.mono ?_
  rintro e w3 ⟨rfl, h3'⟩
  have H3 := Lib.hid h3'
  clear h3' hw
  go_wp2_with fail
  refine (has_read H3.out).mono ?_
  rintro e w4 ⟨x, c, rfl, -, h4, -⟩
  have H4 := Lib.hid h4
  clear h4
  simp only [nul_len]
  go_wp2_with fail
  refine (known_true _).mono ?_
  rintro e w5 ⟨rfl, hb5⟩
  have H5 := Lib.hid (H4.out.below hb5)
  clear hb5
  go_wp2_with fail
  go_ret
  refine ⟨?_, H5.out.bel⟩
  first | rfl | (show Ending.returned (Value.bool (!decide ((a : Int) + (b : Int) ≤ (r : Int)))) = _; rw [decide_eq_false (by omega)]; rfl)
set_option maxRecDepth 100000 in
set_option maxHeartbeats 2000000 in
theorem full_d (r a b : Nat) (w : World) (hr : r ≤ 500) (ha : a ≤ 500) (hb : b ≤ 500) (h1 : r < a) (h2 : r < b) :
    Calls Try.prog 3 #[.int .i64 (r : Int), .int .i64 (a : Int), .int .i64 (b : Int)] w fun e w' => e = .returned (.bool true) ∧ Below w.heap.size w w' := by
  have hmka := mk_bytes a (by omega)
  have hmkb := mk_bytes b (by omega)
  go_enter Try.func3, Try.ntmps3
  go_wp2_with fail
  refine (has_new w (r : Int) _ (Below.refl _ _)).mono ?_
  rintro e w1 ⟨q, rfl, h1', -⟩
  rw [nul_new r (by omega)] at h1'
  have H1 := Lib.hid h1'
  clear h1'
  go_wp2_with fail
  have hw := has_write_zer H1.out a (by omega)
  rw [nul_full _ _ _ _ (by omega)] at hw
  refine hw.mono ?_
  rintro e w2 ⟨rfl, h2'⟩
  have H2 := Lib.hid h2'
  clear h2' hw
  go_wp2_with fail
  have hw := has_write_zer H2.out b (by omega)
  rw [nul_full _ _ _ _ (by omega)] at hw
  refine hw.mono ?_
  rintro e w3 ⟨rfl, h3'⟩
  have H3 := Lib.hid h3'
  clear h3' hw
  go_wp2_with fail
  refine (has_read H3.out).mono ?_
  rintro e w4 ⟨x, c, rfl, -, h4, -⟩
  have H4 := Lib.hid h4
  clear h4
  simp only [nul_len]
  go_wp2_with fail
  refine (known_true _).mono ?_
  rintro e w5 ⟨rfl, hb5⟩
  have H5 := Lib.hid (H4.out.below hb5)
  clear hb5
  go_wp2_with fail
  go_ret
  refine ⟨?_, H5.out.bel⟩
  first | rfl | (show Ending.returned (Value.bool (!decide ((a : Int) + (b : Int) ≤ (r : Int)))) = _; rw [decide_eq_false (by omega)]; rfl)
theorem full_walk (a_1 a_2 a_3 : Int) (w : World) (_ : (Lit.int .i64 a_1).wf = true) (_ : (Lit.int .i64 a_2).wf = true) (_ : (Lit.int .i64 a_3).wf = true) :
    Calls Try.prog 3 #[.int .i64 a_1, .int .i64 a_2, .int .i64 a_3] w fun e w' => e = .returned (.bool true) ∧ Below w.heap.size w w' := by
  by_cases h : a_1 < 0 ∨ 500 < a_1 ∨ a_2 < 0 ∨ 500 < a_2 ∨ a_3 < 0 ∨ 500 < a_3
  · exact full_early _ _ _ w h
  · obtain ⟨r, rfl⟩ := Int.eq_ofNat_of_zero_le (show 0 ≤ a_1 by omega)
    obtain ⟨a, rfl⟩ := Int.eq_ofNat_of_zero_le (show 0 ≤ a_2 by omega)
    obtain ⟨b, rfl⟩ := Int.eq_ofNat_of_zero_le (show 0 ≤ a_3 by omega)
    by_cases h1 : a ≤ r
    · by_cases h2 : a + b ≤ r
      · exact full_a r a b w (by omega) (by omega) (by omega) h1 h2
      · exact full_b r a b w (by omega) (by omega) (by omega) h1 (by omega)
    · by_cases h2 : b ≤ r
      · exact full_c r a b w (by omega) (by omega) (by omega) (by omega) h2
      · exact full_d r a b w (by omega) (by omega) (by omega) (by omega) (by omega)
end Go.Proofs.Ytakpmnlakgkgpaa
