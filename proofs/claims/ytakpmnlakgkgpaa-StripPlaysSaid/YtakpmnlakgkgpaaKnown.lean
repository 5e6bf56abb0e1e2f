/- known: behind a crash that keeps one byte three of four bytes are there, walked; no condition. -/
import Derived.Test.YtakpmnlakgkgpaaHas
import Derived.Lib.SlBytesConst
namespace Go.Proofs.Ytakpmnlakgkgpaa
open Go.RowKit
def k1 : St := ⟨10, [97, 98], 0, false, -1⟩
def k2 : St := ⟨10, [97, 98], 2, false, -1⟩
def k3 : St := ⟨10, [97, 98, 99, 100], 2, false, -1⟩
def k4 : St := ⟨10, [97, 98, 99], 3, false, -1⟩
theorem k1_eq : (St.new 10).write [97, 98] = (k1, 0) := rfl
theorem k2_eq : k1.sync = (k2, 0) := rfl
theorem k3_eq : k2.write [99, 100] = (k3, 0) := rfl
theorem k4_eq : k3.crash 1 = k4 := rfl
set_option maxHeartbeats 1000000 in
theorem known_true (w : World) : Calls Try.prog 12 #[] w fun e w' => e = .returned (.bool true) ∧ Below w.heap.size w w' := by
  have kc := fun (w : World) (C : Array Value) (n c : Nat) => Lib.run_convert_bytes_const (P := Try.prog) w 26 5 C n c Try.underlying26 Try.underlying5
  go_enter Try.func12, Try.ntmps12
  go_wp2_with fail
  refine (has_new w 10 _ (Below.refl _ _)).mono ?_
  rintro e w1 ⟨q, rfl, h1, -⟩
  have H1 := Lib.hid h1
  clear h1
  go_wp2_with fail
  have hw := has_write_new H1.out #[.int .u8 97, .int .u8 98] (2, 3) 2 [97, 98] (by intro j u hj; simpa [bys] using hj) (by decide)
  rw [k1_eq] at hw
  refine hw.mono ?_
  rintro e w2 ⟨rfl, h2⟩
  have H2 := Lib.hid h2
  clear h2 hw
  go_wp2_with fail
  have hw := has_sync H2.out
  rw [k2_eq] at hw
  refine hw.mono ?_
  rintro e w3 ⟨rfl, h3⟩
  have H3 := Lib.hid h3
  clear h3 hw
  go_wp2_with fail
  have hw := has_write_new H3.out #[.int .u8 99, .int .u8 100] (2, 3) 2 [99, 100] (by intro j u hj; simpa [bys] using hj) (by decide)
  rw [k3_eq] at hw
  refine hw.mono ?_
  rintro e w4 ⟨rfl, h4⟩
  have H4 : Hid (Has w w4 q k3) := Lib.hid h4
  clear h4 hw
  go_wp2_with fail
  refine (has_crash H4.out 1).mono ?_
  rintro e w5 ⟨q2, rfl, h5, h5', -⟩
  have H5 : Hid (Has w w5 q2 k4) := Lib.hid h5
  have H5' := Lib.hid h5'
  clear h5 h5'
  go_wp2_with fail
  refine (has_read H5.out).mono ?_
  rintro e w6 ⟨a, c, rfl, ho, h6, hb6⟩
  have H6 := Lib.hid h6
  have H6' := Lib.hid (H5'.out.below hb6)
  have hstr := str_of ho
  clear ho h6 hb6
  go_wp2_with fail
  refine (has_safe H6'.out).mono ?_
  rintro e w7 ⟨rfl, rfl⟩
  go_wp2_with fail
  go_ret
  exact ⟨rfl, H6.out.bel⟩
end Go.Proofs.Ytakpmnlakgkgpaa
