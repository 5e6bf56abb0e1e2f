/- First over boxes of ints, walked: the first box that has something gives its first, else nothing comes; conditions: the boxes lie in the world. -/
import Derived.Test.YtadcdnenecmbgaaBoxC
import Derived.Test.YtadcdnenecmbgaaRingsWalk
namespace Go.Proofs.Ytadcdnenecmbgaa
open Go.Conc Go.RowKit

/-- A box from which nothing comes. -/
def Empty (w : World) (p : Option Addr) : Prop := p = none ∨ ∃ b c cap, p = some ⟨b, 0, none⟩ ∧ BoxAt 56 w b c cap (vals [])
theorem take_empty (p : Option Addr) (w : World) (h : Empty w p) : Calls Try.prog 10 #[.pointer p] w fun e w' => e = .returned (.tuple #[.int .i64 0, .bool false]) ∧ w = w' := by
  rcases h with rfl | ⟨b, c, cap, rfl, h⟩
  · exact take_nil_int w
  · exact take_no b c cap w h
theorem put_empty_nil (x : Int) (w : World) : Calls Try.prog 9 #[.pointer none, .int .i64 x] w fun e w' => e = .returned (.bool false) ∧ w = w' := put_nil_int x w

set_option maxHeartbeats 1000000 in
theorem first_none (a : Option Addr) (len cap : Nat) (w : World) (hlen : len ≤ 1000) (h : ∀ i, i < len → ∃ ad p, a = some ad ∧ w.cell? (ad.add i) = some (.pointer p) ∧ Empty w p) :
    Calls Try.prog 17 #[.slice a len cap] w fun e w' => e = .returned (.tuple #[.int .i64 0, .int .i64 (-1), .bool false]) ∧ w = w' := by
  have HC := Lib.hid h
  clear h
  go_enter Try.func17, Try.ntmps17
  go_wp2_with fail
  go_loopg [12] len (fun g i wr => ∃ k : Nat, k ≤ len ∧ g + k = len ∧ i = .int .i64 k ∧ wr = w)
  case atStart => exact ⟨0, Nat.zero_le _, rfl, rfl, rfl⟩
  case round =>
    obtain ⟨k, hk, hg, rfl, rfl⟩ := hrel
    have HG := Lib.hid hg
    clear hg
    by_cases hlt : k < len
    · obtain ⟨ad, p, rfl, hcell, hE⟩ := HC.out k hlt
      have HE := Lib.hid hE
      clear hE
      go_wp2_with fail
      refine (take_empty p _ HE.out).mono ?_
      rintro e w2 ⟨rfl, rfl⟩
      go_wp2_with fail
      go_roundg (len - (k + 1))
      case rel => exact ⟨k + 1, by omega, by omega, by go_num, rfl⟩
      case measure => have := HG.out; omega
    · go_wp2_with fail
      go_ret3
      exact ⟨rfl, rfl⟩

set_option maxHeartbeats 1000000 in
theorem first_some (a : Option Addr) (len cap : Nat) (w : World) (hlen : len ≤ 1000) (j : Nat) (hj : j < len) (b c rm : Nat) (x : Int) (L : List Int)
    (h : ∀ i, i < j → ∃ ad p, a = some ad ∧ w.cell? (ad.add i) = some (.pointer p) ∧ Empty w p)
    (hcj : ∃ ad, a = some ad ∧ w.cell? (ad.add j) = some (.pointer (some ⟨b, 0, none⟩))) (hB : BoxAt 56 w b c rm (vals (x :: L))) :
    Calls Try.prog 17 #[.slice a len cap] w fun e w' => e = .returned (.tuple #[.int .i64 x, .int .i64 j, .bool true]) ∧ BoxAt 56 w' b c rm (vals L) ∧ ChanOnly c w w' := by
  have HC := Lib.hid h
  have HJ := Lib.hid hcj
  have HB := Lib.hid hB
  clear h hcj hB
  go_enter Try.func17, Try.ntmps17
  go_wp2_with fail
  go_loopg [12] len (fun g i wr => ∃ k : Nat, k ≤ j ∧ g + k = len ∧ i = .int .i64 k ∧ wr = w)
  case atStart => exact ⟨0, Nat.zero_le _, rfl, rfl, rfl⟩
  case round =>
    obtain ⟨k, hk, hg, rfl, rfl⟩ := hrel
    have HG := Lib.hid hg
    clear hg
    have hlt : k < len := by omega
    by_cases hkj : k < j
    · obtain ⟨ad, p, rfl, hcell, hE⟩ := HC.out k hkj
      have HE := Lib.hid hE
      clear hE
      go_wp2_with fail
      refine (take_empty p _ HE.out).mono ?_
      rintro e w2 ⟨rfl, rfl⟩
      go_wp2_with fail
      go_roundg (len - (k + 1))
      case rel => exact ⟨k + 1, by omega, by omega, by go_num, rfl⟩
      case measure => have := HG.out; omega
    · obtain rfl : k = j := by omega
      obtain ⟨ad, rfl, hcell⟩ := HJ.out
      go_wp2_with fail
      refine (take_yes _ _ _ L x _ HB.out).mono ?_
      rintro e w2 ⟨rfl, hB2, hO2⟩
      have H2 := Lib.hid (And.intro hB2 hO2)
      clear hB2 hO2
      go_wp2_with fail
      go_ret3
      exact ⟨rfl, H2.out⟩
end Go.Proofs.Ytadcdnenecmbgaa
