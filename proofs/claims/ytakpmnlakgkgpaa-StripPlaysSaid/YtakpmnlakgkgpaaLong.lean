/- long, walked: it answers, and the world stands; condition: the list's cells lie in the world. -/
import Derived.Test.YtakpmnlakgkgpaaActs
namespace Go.Proofs.Ytakpmnlakgkgpaa
open Go.RowKit
/-- The list of acts among a law's arguments lies in the world w. -/
def Lst (w : World) (a : Option Addr) (len : Nat) (z : Nat → AV) : Prop := ∀ i, i < len → ∃ ad, a = some ad ∧ ad.block < w.heap.size ∧ AIn w ad i (z i)
theorem aux_lt {k len : Nat} (h : k ≤ len) : (0 : Int) ≤ k ∧ (k : Int) ≤ len := by omega
set_option maxHeartbeats 1000000 in
theorem long_calls (a : Option Addr) (len cap : Nat) (z : Nat → AV) (w : World) (hz : Lst w a len z) (hl : len * 40 ≤ 140737488351232) :
    Calls Try.prog 16 #[.slice a len cap] w fun e w' => ∃ b, e = .returned (.bool b) ∧ w = w' := by
  have HZ := Lib.hid hz
  clear hz
  go_enter Try.func16, Try.ntmps16
  go_wp2_with fail
  go_loopg [3, 4] 80 (fun g n i wr => ∃ (k m : Nat), k ≤ len ∧ k ≤ 80 ∧ m ≤ 5000 ∧ g + k = 80 ∧ n = .int .i64 m ∧ i = .int .i64 k ∧ w = wr)
  case atStart => exact ⟨0, 0, by omega, by omega, by omega, rfl, rfl, rfl, rfl⟩
  case round =>
    obtain ⟨k, m, hk, hk80, hm, hg, rfl, rfl, rfl⟩ := hrel
    have HG := Lib.hid hg
    clear hg
    by_cases h1 : k < len
    · by_cases h2 : k < 80
      · obtain ⟨ad, rfl, hb, hi⟩ := HZ.out k h1
        have hp := hi.p
        have hpl := hi.len
        rw [add_fld ad (k * 3) 2 (by omega)] at hp
        clear hi
        generalize (z k).P.length = pl at *
        by_cases h3 : 5000 < m + 1 + pl
        · go_wp2_with fail
          go_ret
          exact ⟨_, rfl, rfl⟩
        · go_wp2_with fail
          go_roundg (80 - (k + 1))
          case rel => exact ⟨k + 1, m + 1 + pl, by omega, by omega, by omega, by omega, by go_num, by go_num, rfl⟩
          case measure => have := HG.out; omega
      · go_wp2_with fail
        go_ret
        exact ⟨_, rfl, rfl⟩
    · go_wp2_with fail
      go_ret
      exact ⟨_, rfl, rfl⟩
end Go.Proofs.Ytakpmnlakgkgpaa
