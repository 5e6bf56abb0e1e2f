/- PostTexts, walked: it answers true whatever the texts; conditions: the list's cells lie in the world. -/
import Derived.Test.YtadcdnenecmbgaaNothing
import Derived.Deep.QuietTactic
import Derived.BigQuiet
namespace Go.Proofs.Ytadcdnenecmbgaa
open Go.Conc Go.RowKit

theorem own_cells {w : World} {base : Nat} {e : TypeId} {ao : Option Addr} {n cp : Nat} {xs : List Value} (h : w.ownsRow base e 1 (.slice ao n cp) n xs) :
    ∀ j, j < n → ∃ ad, ao = some ad ∧ base ≤ ad.block ∧ ad.block < w.heap.size ∧ w.cell? (ad.add j) = xs[j]? := by
  intro j hj
  obtain ⟨hx, hv⟩ := h
  rcases hv with ⟨hv, h0⟩ | ⟨g, cap, cur, hv, hb, hh, hn, hm, hc, ht⟩
  · omega
  · injection hv with h1 h2 h3
    subst h1
    refine ⟨_, rfl, hb, (Array.getElem?_eq_some_iff.1 hh).1, ?_⟩
    rw [cell_at hh, ← ht, List.getElem?_take_of_lt (by omega)]
    simp
/-- The first n texts. -/
def upto (z : Nat → ByteArray) (n : Nat) : List ByteArray := (List.range n).map z
theorem upto_length (z : Nat → ByteArray) (n : Nat) : (upto z n).length = n := by simp [upto]
theorem upto_snoc (z : Nat → ByteArray) (n : Nat) : upto z n ++ [z n] = upto z (n + 1) := by simp [upto, List.range_succ]
theorem upto_get (z : Nat → ByteArray) (n j : Nat) (h : j < n) : (svals (upto z n))[j]? = some (.string (z j)) := by simp [svals, upto, h]

set_option maxHeartbeats 1000000 in
theorem texts_walk (a : Option Addr) (len cap : Nat) (z : Nat → ByteArray) (w : World)
    (hc : ∀ i, i < len → (∃ ad, a = some ad ∧ ad.block < w.heap.size ∧ w.cell? (ad.add i) = some (.string (z i))) ∧ (z i).size ≤ maxLen) (hlen : len * 16 ≤ 140737488351232) :
    Calls Try.prog 4 #[.slice a len cap] w fun e w' => e = .returned (.bool true) ∧ Below w.heap.size w w' := by
  have HC := Lib.hid hc
  clear hc
  by_cases h1 : 100 < len
  · go_enter Try.func4, Try.ntmps4
    go_wp2_with fail
    go_ret
    exact ⟨rfl, Below.refl _ _⟩
  · go_enter Try.func4, Try.ntmps4
    go_wp2_with fail
    refine (new_str len (by omega) _).mono ?_
    rintro e w1 ⟨rfl, rfl⟩
    have hB : BoxAt 59 ((w.alloc (.chan len #[] false 0 0 false)).alloc (.cells #[.chan (some w.heap.size)] 59)) (w.heap.size + 1) w.heap.size len (svals (upto z 0)) := boxAt_new w 59 len
    have hbel : Below w.heap.size w ((w.alloc (.chan len #[] false 0 0 false)).alloc (.cells #[.chan (some w.heap.size)] 59)) := ((Below.refl _ _).alloc (Nat.le_refl _) _).alloc (by simp) _
    generalize (w.alloc (.chan len #[] false 0 0 false)).alloc (.cells #[.chan (some w.heap.size)] 59) = w1 at *
    go_wp2_with fail
    go_loopg [4] len (fun g i wr => ∃ k : Nat, k ≤ len ∧ g + k = len ∧ i = .int .i64 k ∧ BoxAt 59 wr (w.heap.size + 1) w.heap.size len (svals (upto z k)) ∧ Below w.heap.size w wr)
    case atStart => exact ⟨0, Nat.zero_le _, rfl, rfl, hB, hbel⟩
    case round =>
      clear hB hbel
      obtain ⟨k, hk, hg, rfl, hBr, hbr⟩ := hrel
      have HG := Lib.hid hg
      clear hg
      by_cases hlt : k < len
      · obtain ⟨⟨ad, rfl, hb, hcell0⟩, hs⟩ := HC.out k hlt
        have hcell := cell_below hbr (by rw [add_block]; exact hb) hcell0
        clear hcell0
        unfold maxLen at hs
        by_cases h2 : 200 < (z k).size
        · go_wp2_with fail
          go_ret
          exact ⟨rfl, hbr⟩
        · go_wp2_with fail
          refine (put_yes_str _ _ _ _ (z k) _ hBr (by rw [upto_length]; exact hlt)).mono ?_
          rintro e w2 ⟨rfl, hB2, hO2⟩
          rw [upto_snoc] at hB2
          have hb2 := hbr.trans (hO2.2.2 _ (Nat.le_refl _))
          clear hO2 hBr hcell
          go_wp2_with fail
          go_roundg (len - (k + 1))
          case rel => exact ⟨k + 1, by omega, by omega, by go_num, hB2, hb2⟩
          case measure => have := HG.out; omega
      · obtain rfl : k = len := by omega
        go_wp2_with fail
        refine (put_no_str _ _ _ _ _ _ hBr (by rw [upto_length]; omega)).mono ?_
        rintro e w2 ⟨rfl, rfl⟩
        go_wp2_with fail
        refine (drain_str _ _ _ _ _ hBr (by rw [upto_length]; omega)).mono ?_
        rintro e w3 ⟨v', rfl, hown, hB3, hG3⟩
        rw [upto_length] at hown
        have hown' := hown.lt
        have hb3 := below_only hbr hG3 (fun i e => by injection e with e; omega) hbr.size
        have hsz := hbr.size
        clear hG3 hBr hbr
        obtain ⟨ao, cp, rfl⟩ := own_shape hown
        have HD := Lib.hid (own_cells hown)
        clear hown hown'
        go_wp2_with fail
        refine (len_str_box _ _ _ [] _ hB3).mono ?_
        rintro e w4 ⟨rfl, rfl⟩
        clear hB3
        go_wp2_with fail
        go_loopg [6] k (fun g i wr => ∃ j : Nat, j ≤ k ∧ g + j = k ∧ i = .int .i64 j ∧ ∃ n, wr = w3.drewN n)
        case atStart => exact ⟨0, Nat.zero_le _, rfl, rfl, 0, rfl⟩
        case round =>
          obtain ⟨j, hj, hg, rfl, nd, rfl⟩ := hrel
          have HG2 := Lib.hid hg
          clear hg
          by_cases hjl : j < k
          · obtain ⟨⟨ad, rfl, hb, hcell0⟩, hs⟩ := HC.out j hjl
            have hcell := cell_below hb3 (by rw [add_block]; exact hb) hcell0
            obtain ⟨ad2, rfl, hb2, hlt2, hcell2⟩ := HD.out j hjl
            rw [upto_get _ _ _ hjl] at hcell2
            clear hcell0
            go_wp2_with fail
            go_quiet (fail)
            go_wp2_with fail
            go_roundg (k - (j + 1))
            case rel => exact ⟨j + 1, by omega, by omega, by go_num, _, rfl⟩
            case measure => have := HG2.out; omega
          · go_wp2_with fail
            refine (known_true _).mono ?_
            rintro e w4 ⟨rfl, hb4⟩
            have hb5 := (below_drewN hb3 nd).trans (hb4.mono hb3.size)
            clear hb3 hb4
            go_wp2_with fail
            go_ret
            exact ⟨rfl, hb5⟩
end Go.Proofs.Ytadcdnenecmbgaa
