/- PostOfNothing, walked: it answers true whatever the value and the room; no condition. -/
import Derived.Test.YtadcdnenecmbgaaFirst
namespace Go.Proofs.Ytadcdnenecmbgaa
open Go.Conc Go.RowKit

theorem own_shape {w : World} {base : Nat} {e : TypeId} {size : Nat} {v : Value} {n : Nat} {xs : List Value} (h : w.ownsRow base e size v n xs) : ∃ a cp, v = .slice a n cp := by
  rcases h.2 with ⟨rfl, rfl⟩ | ⟨g, cap, cur, rfl, _⟩
  · exact ⟨none, 0, rfl⟩
  · exact ⟨_, cap, rfl⟩
set_option maxHeartbeats 400000 in
theorem drain_nil (w : World) : Calls Try.prog 22 #[.pointer none] w fun e w' => e = .returned (.slice none 0 0) ∧ w = w' := by
  go_enter Try.func22, Try.ntmps22
  go_wp2_with fail
  refine (take_nil_int w).mono ?_
  rintro e w1 ⟨rfl, rfl⟩
  go_wp2_with fail
  go_loopg [3, 4, 5] 0 (fun _ l v ok wr => l = .slice none 0 0 ∧ v = .int .i64 0 ∧ ok = .bool false ∧ wr = w)
  case atStart => exact ⟨rfl, rfl, rfl, rfl⟩
  case round =>
    obtain ⟨rfl, rfl, rfl, rfl⟩ := hrel
    go_wp2_with fail
    go_ret
    exact ⟨rfl, rfl⟩

theorem two_empty (w1 : World) (b c cap : Nat) (hB : BoxAt 56 (w1.alloc (.cells #[.pointer none, .pointer (some ⟨b, 0, none⟩)] 23)) b c cap (vals [])) :
    ∀ i, i < 2 → ∃ ad p, some (⟨w1.heap.size, 0, none⟩ : Addr) = some ad ∧ (w1.alloc (.cells #[.pointer none, .pointer (some ⟨b, 0, none⟩)] 23)).cell? (ad.add i) = some (.pointer p) ∧ Empty (w1.alloc (.cells #[.pointer none, .pointer (some ⟨b, 0, none⟩)] 23)) p := by
  intro i hi
  have hn := heap_alloc_new w1 (.cells #[.pointer none, .pointer (some ⟨b, 0, none⟩)] 23)
  rcases (show i = 0 ∨ i = 1 by omega) with rfl | rfl
  · exact ⟨_, none, rfl, by rw [cell_at hn]; rfl, .inl rfl⟩
  · exact ⟨_, some ⟨b, 0, none⟩, rfl, by rw [cell_at hn]; rfl, .inr ⟨b, c, cap, rfl, hB⟩⟩
set_option maxHeartbeats 1000000 in
theorem nothing_walk (v room : Int) (w : World) (_ : (Lit.int .i64 v).wf = true) (_ : (Lit.int .i64 room).wf = true) :
    Calls Try.prog 7 #[.int .i64 v, .int .i64 room] w fun e w' => e = .returned (.bool true) ∧ Below w.heap.size w w' := by
  by_cases hr : 0 < room
  · go_enter Try.func7, Try.ntmps7
    go_wp2_with fail
    go_ret
    exact ⟨rfl, Below.refl _ _⟩
  · go_enter Try.func7, Try.ntmps7
    go_wp2_with fail
    refine (new_neg room (by omega) _).mono ?_
    rintro e w1 ⟨rfl, rfl⟩
    have hB : BoxAt 56 ((w.alloc (.chan 0 #[] false 0 0 false)).alloc (.cells #[.chan (some w.heap.size)] 56)) (w.heap.size + 1) w.heap.size 0 (vals []) := boxAt_new w 56 0
    have hbel : Below w.heap.size w ((w.alloc (.chan 0 #[] false 0 0 false)).alloc (.cells #[.chan (some w.heap.size)] 56)) := ((Below.refl _ _).alloc (Nat.le_refl _) _).alloc (by simp) _
    generalize (w.alloc (.chan 0 #[] false 0 0 false)).alloc (.cells #[.chan (some w.heap.size)] 56) = w1 at *
    go_wp2_with fail
    refine (take_nil_int _).mono ?_
    rintro e w2 ⟨rfl, rfl⟩
    go_wp2_with fail
    refine (take_no _ _ _ _ hB).mono ?_
    rintro e w2 ⟨rfl, rfl⟩
    go_wp2_with fail
    have hB2 := hB.alloc (.cells #[.pointer none, .pointer (some ⟨w.heap.size + 1, 0, none⟩)] 23)
    have hb2 := hbel.alloc (show w.heap.size ≤ w1.heap.size from hbel.size) (.cells #[.pointer none, .pointer (some ⟨w.heap.size + 1, 0, none⟩)] 23)
    have hf := two_empty w1 (w.heap.size + 1) w.heap.size 0 hB2
    refine (first_none _ _ _ _ (by omega) hf).mono ?_
    rintro e w3 ⟨rfl, rfl⟩
    clear hf hB hbel
    generalize w1.alloc (.cells #[.pointer none, .pointer (some ⟨w.heap.size + 1, 0, none⟩)] 23) = w2 at *
    go_wp2_with fail
    refine (put_nil_int _ _).mono ?_
    rintro e w3 ⟨rfl, rfl⟩
    go_wp2_with fail
    refine (put_no _ _ _ [] _ _ hB2 (by simp)).mono ?_
    rintro e w3 ⟨rfl, rfl⟩
    go_wp2_with fail
    refine (len_nil_int _).mono ?_
    rintro e w3 ⟨rfl, rfl⟩
    go_wp2_with fail
    refine (len_box _ _ _ [] _ hB2).mono ?_
    rintro e w3 ⟨rfl, rfl⟩
    go_wp2_with fail
    refine (drain_nil _).mono ?_
    rintro e w3 ⟨rfl, rfl⟩
    go_wp2_with fail
    refine (drain_int _ _ _ [] _ hB2 (by simp)).mono ?_
    rintro e w3 ⟨v', rfl, hown, hB3, hG3⟩
    obtain ⟨ao, cp, rfl⟩ := own_shape hown
    have hb3 := below_only hb2 hG3 (fun i e => by injection e with e; omega) hb2.size
    clear hown hB3 hG3 hB2 hb2
    go_wp2_with fail
    refine (known_true _).mono ?_
    rintro e w4 ⟨rfl, hb4⟩
    have hb5 := hb3.trans (hb4.mono hb3.size)
    clear hb3 hb4
    go_wp2_with fail
    go_ret
    exact ⟨rfl, hb5⟩
end Go.Proofs.Ytadcdnenecmbgaa
