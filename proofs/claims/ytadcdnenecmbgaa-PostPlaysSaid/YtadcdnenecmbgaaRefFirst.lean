/- The reference's First, walked; conditions: the boxes lie in the world. -/
import Derived.Test.YtadcdnenecmbgaaRefBox
namespace Go.Proofs.Ytadcdnenecmbgaa
open Go.Conc Go.RowKit

set_option maxHeartbeats 1000000 in
theorem ref_first_none (a : Option Addr) (len cap N : Nat) (w : World) (hlen : len ≤ 1000) (h : ∀ i, i < len → ∃ ad q room v, a = some ad ∧ w.cell? (ad.add i) = some (.pointer (some ⟨q, 0, none⟩)) ∧ RefAt w N q room v []) :
    Calls Try.prog 21 #[.slice a len cap] w fun e w' => e = .returned (.tuple #[.int .i64 0, .int .i64 (-1), .bool false]) ∧ w = w' := by
  have HC := Lib.hid h
  clear h
  go_enter Try.func21, Try.ntmps21
  go_wp2_with fail
  go_loopg [5] len (fun g i wr => ∃ k : Nat, k ≤ len ∧ g + k = len ∧ i = .int .i64 k ∧ wr = w)
  case atStart => exact ⟨0, Nat.zero_le _, rfl, rfl, rfl⟩
  case round =>
    obtain ⟨k, hk, hg, rfl, rfl⟩ := hrel
    have HG := Lib.hid hg
    clear hg
    by_cases hlt : k < len
    · obtain ⟨ad, q, room, v, rfl, hcell, hE⟩ := HC.out k hlt
      have HE := Lib.hid hE
      clear hE
      go_wp2_with fail
      refine (ref_take_none N q room v _ HE.out).mono ?_
      rintro e w2 ⟨rfl, rfl⟩
      go_wp2_with fail
      go_roundg (len - (k + 1))
      case rel => exact ⟨k + 1, by omega, by omega, by go_num, rfl⟩
      case measure => have := HG.out; omega
    · go_wp2_with fail
      go_ret3
      exact ⟨rfl, rfl⟩
set_option maxHeartbeats 1000000 in
theorem ref_first_some (a : Option Addr) (len cap N : Nat) (w : World) (hlen : len ≤ 1000) (j : Nat) (hj : j < len) (q room : Nat) (v : Value) (x : Int) (L : List Int) (hL : L.length ≤ 1000) (hN : N ≤ w.heap.size)
    (h : ∀ i, i < j → ∃ ad q room v, a = some ad ∧ w.cell? (ad.add i) = some (.pointer (some ⟨q, 0, none⟩)) ∧ RefAt w N q room v [])
    (hcj : ∃ ad, a = some ad ∧ w.cell? (ad.add j) = some (.pointer (some ⟨q, 0, none⟩))) (hB : RefAt w N q room v (x :: L)) :
    Calls Try.prog 21 #[.slice a len cap] w fun e w' => e = .returned (.tuple #[.int .i64 x, .int .i64 j, .bool true]) ∧ ∃ v', RefAt w' N q room v' L ∧ RefStep w w' q v v' := by
  have HC := Lib.hid h
  have HJ := Lib.hid hcj
  have HB := Lib.hid hB
  have HN := Lib.hid hN
  clear h hcj hB hN
  go_enter Try.func21, Try.ntmps21
  go_wp2_with fail
  go_loopg [5] len (fun g i wr => ∃ k : Nat, k ≤ j ∧ g + k = len ∧ i = .int .i64 k ∧ wr = w)
  case atStart => exact ⟨0, Nat.zero_le _, rfl, rfl, rfl⟩
  case round =>
    obtain ⟨k, hk, hg, rfl, rfl⟩ := hrel
    have HG := Lib.hid hg
    clear hg
    have hlt : k < len := by omega
    by_cases hkj : k < j
    · obtain ⟨ad, q', room', v', rfl, hcell, hE⟩ := HC.out k hkj
      have HE := Lib.hid hE
      clear hE
      go_wp2_with fail
      refine (ref_take_none N q' room' v' _ HE.out).mono ?_
      rintro e w2 ⟨rfl, rfl⟩
      go_wp2_with fail
      go_roundg (len - (k + 1))
      case rel => exact ⟨k + 1, by omega, by omega, by go_num, rfl⟩
      case measure => have := HG.out; omega
    · obtain rfl : k = j := by omega
      obtain ⟨ad, rfl, hcell⟩ := HJ.out
      go_wp2_with fail
      refine (ref_take_some N q room v x L _ HB.out hL HN.out).mono ?_
      rintro e w2 ⟨rfl, hS⟩
      have H2 := Lib.hid hS
      clear hS
      go_wp2_with fail
      go_ret3
      exact ⟨rfl, H2.out⟩
end Go.Proofs.Ytadcdnenecmbgaa
