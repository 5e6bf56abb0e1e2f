/- StripCuts, walked: it answers true whatever the sizes and the cut; no condition. -/
import Derived.Test.YtakpmnlakgkgpaaMake
namespace Go.Proofs.Ytakpmnlakgkgpaa
open Go.RowKit
theorem cuts_early (a b n : Int) (w : World) (h : a < 0 ∨ 300 < a ∨ b < 0 ∨ 300 < b) :
    Calls Try.prog 4 #[.int .i64 a, .int .i64 b, .int .i64 n] w fun e w' => e = .returned (.bool true) ∧ Below w.heap.size w w' := by
  rcases (show a < 0 ∨ (¬ a < 0 ∧ 300 < a) ∨ (¬ a < 0 ∧ ¬ 300 < a ∧ b < 0) ∨ (¬ a < 0 ∧ ¬ 300 < a ∧ ¬ b < 0 ∧ 300 < b) by omega) with
    h1 | ⟨h1, h2⟩ | ⟨h1, h2, h3⟩ | ⟨h1, h2, h3, h4⟩
  all_goals
    clear h
    go_enter Try.func4, Try.ntmps4
    go_wp2_with fail
    go_ret
    exact ⟨rfl, Below.refl _ _⟩
set_option maxRecDepth 100000 in
set_option maxHeartbeats 2000000 in
theorem cuts_lo (a b : Nat) (n : Int) (w : World) (ha : a ≤ 300) (hb : b ≤ 300) (h1 : n < 0) :
    Calls Try.prog 4 #[.int .i64 (a : Int), .int .i64 (b : Int), .int .i64 n] w fun e w' => e = .returned (.bool true) ∧ Below w.heap.size w w' := by
  have hmka := mk_bytes a (by omega)
  have hmkb := mk_bytes b (by omega)
  go_enter Try.func4, Try.ntmps4
  go_wp2_with fail
  refine (has_new w 1000 _ (Below.refl _ _)).mono ?_
  rintro e w1 ⟨q, rfl, h1', -⟩
  rw [show (1000 : Int) = ((1000 : Nat) : Int) from rfl, nul_new 1000 (by omega)] at h1'
  have H1 := Lib.hid h1'
  clear h1'
  go_wp2_with fail
  have hw := has_write_zer H1.out a (by omega)
  rw [nul_write _ _ _ _ (by omega)] at hw
  refine hw.mono ?_
  rintro e w2 ⟨rfl, h2'⟩
  have H2 := Lib.hid h2'
  clear h2' hw
  go_wp2_with fail
  have hw := has_sync H2.out
  rw [nul_sync] at hw
  refine hw.mono ?_
  rintro e w2b ⟨rfl, h2'⟩
  have H2b := Lib.hid h2'
  clear h2' hw
  go_wp2_with fail
  have hw := has_write_zer H2b.out b (by omega)
  rw [nul_write _ _ _ _ (by omega)] at hw
  refine hw.mono ?_
  rintro e w3 ⟨rfl, h3'⟩
  have H3 := Lib.hid h3'
  clear h3' hw
  go_wp2_with fail
  have hw := has_cut H3.out n
  rw [nul_cut_bad _ _ _ _ (by omega)] at hw
  refine hw.mono ?_
  rintro e w3b ⟨rfl, h3'⟩
  have H3b := Lib.hid h3'
  clear h3' hw
  go_wp2_with fail
  refine (has_read H3b.out).mono ?_
  rintro e w4 ⟨x, c, rfl, -, h4, -⟩
  have H4 := Lib.hid h4
  clear h4
  simp only [nul_len]
  go_wp2_with fail
  refine (has_safe H4.out).mono ?_
  rintro e w4b ⟨rfl, rfl⟩
  simp only [nul]
  go_wp2_with fail
  refine (known_true _).mono ?_
  rintro e w5 ⟨rfl, hb5⟩
  have H5 := Lib.hid (H4.out.below hb5)
  clear hb5
  go_wp2_with fail
  go_ret
  exact ⟨rfl, H5.out.bel⟩
set_option maxRecDepth 100000 in
set_option maxHeartbeats 2000000 in
theorem cuts_hi (a b : Nat) (n : Int) (w : World) (ha : a ≤ 300) (hb : b ≤ 300) (h0 : ¬ n < 0) (h1 : (a : Int) + (b : Int) < n) :
    Calls Try.prog 4 #[.int .i64 (a : Int), .int .i64 (b : Int), .int .i64 n] w fun e w' => e = .returned (.bool true) ∧ Below w.heap.size w w' := by
  have hmka := mk_bytes a (by omega)
  have hmkb := mk_bytes b (by omega)
  go_enter Try.func4, Try.ntmps4
  go_wp2_with fail
  refine (has_new w 1000 _ (Below.refl _ _)).mono ?_
  rintro e w1 ⟨q, rfl, h1', -⟩
  rw [show (1000 : Int) = ((1000 : Nat) : Int) from rfl, nul_new 1000 (by omega)] at h1'
  have H1 := Lib.hid h1'
  clear h1'
  go_wp2_with fail
  have hw := has_write_zer H1.out a (by omega)
  rw [nul_write _ _ _ _ (by omega)] at hw
  refine hw.mono ?_
  rintro e w2 ⟨rfl, h2'⟩
  have H2 := Lib.hid h2'
  clear h2' hw
  go_wp2_with fail
  have hw := has_sync H2.out
  rw [nul_sync] at hw
  refine hw.mono ?_
  rintro e w2b ⟨rfl, h2'⟩
  have H2b := Lib.hid h2'
  clear h2' hw
  go_wp2_with fail
  have hw := has_write_zer H2b.out b (by omega)
  rw [nul_write _ _ _ _ (by omega)] at hw
  refine hw.mono ?_
  rintro e w3 ⟨rfl, h3'⟩
  have H3 := Lib.hid h3'
  clear h3' hw
  go_wp2_with fail
  have hw := has_cut H3.out n
  rw [nul_cut_bad _ _ _ _ (by omega)] at hw
  refine hw.mono ?_
  rintro e w3b ⟨rfl, h3'⟩
  have H3b := Lib.hid h3'
  clear h3' hw
  go_wp2_with fail
  refine (has_read H3b.out).mono ?_
  rintro e w4 ⟨x, c, rfl, -, h4, -⟩
  have H4 := Lib.hid h4
  clear h4
  simp only [nul_len]
  go_wp2_with fail
  refine (has_safe H4.out).mono ?_
  rintro e w4b ⟨rfl, rfl⟩
  simp only [nul]
  go_wp2_with fail
  refine (known_true _).mono ?_
  rintro e w5 ⟨rfl, hb5⟩
  have H5 := Lib.hid (H4.out.below hb5)
  clear hb5
  go_wp2_with fail
  go_ret
  exact ⟨rfl, H5.out.bel⟩
set_option maxRecDepth 100000 in
set_option maxHeartbeats 2000000 in
theorem cuts_ok (a b : Nat) (n : Nat) (w : World) (ha : a ≤ 300) (hb : b ≤ 300) (h1 : n ≤ a + b) :
    Calls Try.prog 4 #[.int .i64 (a : Int), .int .i64 (b : Int), .int .i64 (n : Int)] w fun e w' => e = .returned (.bool true) ∧ Below w.heap.size w w' := by
  have hmka := mk_bytes a (by omega)
  have hmkb := mk_bytes b (by omega)
  by_cases hm : a ≤ n
  · have hm1 : min (a : Int) (n : Int) = (a : Int) := by omega
    have hm2 : min a n = a := by omega
    go_enter Try.func4, Try.ntmps4
    go_wp2_with fail
    refine (has_new w 1000 _ (Below.refl _ _)).mono ?_
    rintro e w1 ⟨q, rfl, h1', -⟩
    rw [show (1000 : Int) = ((1000 : Nat) : Int) from rfl, nul_new 1000 (by omega)] at h1'
    have H1 := Lib.hid h1'
    clear h1'
    go_wp2_with fail
    have hw := has_write_zer H1.out a (by omega)
    rw [nul_write _ _ _ _ (by omega)] at hw
    refine hw.mono ?_
    rintro e w2 ⟨rfl, h2'⟩
    have H2 := Lib.hid h2'
    clear h2' hw
    go_wp2_with fail
    have hw := has_sync H2.out
    rw [nul_sync] at hw
    refine hw.mono ?_
    rintro e w2b ⟨rfl, h2'⟩
    have H2b := Lib.hid h2'
    clear h2' hw
    go_wp2_with fail
    have hw := has_write_zer H2b.out b (by omega)
    rw [nul_write _ _ _ _ (by omega)] at hw
    refine hw.mono ?_
    rintro e w3 ⟨rfl, h3'⟩
    have H3 := Lib.hid h3'
    clear h3' hw
    go_wp2_with fail
    have hw := has_cut H3.out (n : Int)
    rw [nul_cut _ _ _ _ (by omega)] at hw
    refine hw.mono ?_
    rintro e w3b ⟨rfl, h3'⟩
    have H3b := Lib.hid h3'
    clear h3' hw
    go_wp2_with fail
    refine (has_read H3b.out).mono ?_
    rintro e w4 ⟨x, c, rfl, -, h4, -⟩
    have H4 := Lib.hid h4
    clear h4
    simp only [nul_len]
    go_wp2_with fail
    refine (has_safe H4.out).mono ?_
    rintro e w4b ⟨rfl, rfl⟩
    simp only [nul]
    go_wp2_with fail
    refine (known_true _).mono ?_
    rintro e w5 ⟨rfl, hb5⟩
    have H5 := Lib.hid (H4.out.below hb5)
    clear hb5
    go_wp2_with fail
    go_ret
    exact ⟨rfl, H5.out.bel⟩
  · have hm1 : min (a : Int) (n : Int) = (n : Int) := by omega
    have hm2 : min a n = n := by omega
    go_enter Try.func4, Try.ntmps4
    go_wp2_with fail
    refine (has_new w 1000 _ (Below.refl _ _)).mono ?_
    rintro e w1 ⟨q, rfl, h1', -⟩
    rw [show (1000 : Int) = ((1000 : Nat) : Int) from rfl, nul_new 1000 (by omega)] at h1'
    have H1 := Lib.hid h1'
    clear h1'
    go_wp2_with fail
    have hw := has_write_zer H1.out a (by omega)
    rw [nul_write _ _ _ _ (by omega)] at hw
    refine hw.mono ?_
    rintro e w2 ⟨rfl, h2'⟩
    have H2 := Lib.hid h2'
    clear h2' hw
    go_wp2_with fail
    have hw := has_sync H2.out
    rw [nul_sync] at hw
    refine hw.mono ?_
    rintro e w2b ⟨rfl, h2'⟩
    have H2b := Lib.hid h2'
    clear h2' hw
    go_wp2_with fail
    have hw := has_write_zer H2b.out b (by omega)
    rw [nul_write _ _ _ _ (by omega)] at hw
    refine hw.mono ?_
    rintro e w3 ⟨rfl, h3'⟩
    have H3 := Lib.hid h3'
    clear h3' hw
    go_wp2_with fail
    have hw := has_cut H3.out (n : Int)
    rw [nul_cut _ _ _ _ (by omega)] at hw
    refine hw.mono ?_
    rintro e w3b ⟨rfl, h3'⟩
    have H3b := Lib.hid h3'
    clear h3' hw
    go_wp2_with fail
    refine (has_read H3b.out).mono ?_
    rintro e w4 ⟨x, c, rfl, -, h4, -⟩
    have H4 := Lib.hid h4
    clear h4
    simp only [nul_len]
    go_wp2_with fail
    refine (has_safe H4.out).mono ?_
    rintro e w4b ⟨rfl, rfl⟩
    simp only [nul]
    go_wp2_with fail
    refine (known_true _).mono ?_
    rintro e w5 ⟨rfl, hb5⟩
    have H5 := Lib.hid (H4.out.below hb5)
    clear hb5
    go_wp2_with fail
    go_ret
    exact ⟨rfl, H5.out.bel⟩
theorem cuts_walk (a_1 a_2 a_3 : Int) (w : World) (_ : (Lit.int .i64 a_1).wf = true) (_ : (Lit.int .i64 a_2).wf = true) (_ : (Lit.int .i64 a_3).wf = true) :
    Calls Try.prog 4 #[.int .i64 a_1, .int .i64 a_2, .int .i64 a_3] w fun e w' => e = .returned (.bool true) ∧ Below w.heap.size w w' := by
  by_cases h : a_1 < 0 ∨ 300 < a_1 ∨ a_2 < 0 ∨ 300 < a_2
  · exact cuts_early _ _ _ w h
  · obtain ⟨a, rfl⟩ := Int.eq_ofNat_of_zero_le (show 0 ≤ a_1 by omega)
    obtain ⟨b, rfl⟩ := Int.eq_ofNat_of_zero_le (show 0 ≤ a_2 by omega)
    by_cases h1 : a_3 < 0
    · exact cuts_lo a b _ w (by omega) (by omega) h1
    · by_cases h2 : (a : Int) + (b : Int) < a_3
      · exact cuts_hi a b _ w (by omega) (by omega) h1 h2
      · obtain ⟨n, rfl⟩ := Int.eq_ofNat_of_zero_le (show 0 ≤ a_3 by omega)
        exact cuts_ok a b n w (by omega) (by omega) (by omega)
end Go.Proofs.Ytakpmnlakgkgpaa
