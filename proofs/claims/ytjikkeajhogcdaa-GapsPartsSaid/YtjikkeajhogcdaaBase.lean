/- What the gaps' walks lean on: rows of integers that the call owns; Sort and Compact of such a row, by the shelf's contracts; no condition but that the row is the call's own. -/
import Derived.Test.YtjikkeajhogcdaaChecked
import Derived.Test.YtjikkeajhogcdaaOpen
import Derived.Test.YtjikkeajhogcdaaShelf
import Derived.WalkKit
import Derived.WalkSpells
import Derived.WalkSmall
import Derived.Outline
import Derived.Lib.Hide
import Derived.Lib.SliceRun
import Derived.Lib.OwnBridge
import Derived.Sort.Grow
import Derived.Deep.LoopGhost
import Derived.Deep.QuietTactic
import Derived.BigQuiet
import Derived.KernelRfl
import Derived.Laws.Rows
import Derived.Laws.AppendOwnNone
import Derived.Laws.OwnMore
import Derived.Maps.AppendAt
import Derived.Deep.AppendLies
namespace Go.Proofs.Ytjikkeajhogcdaa
open Go.RowKit
theorem own_info {w : World} {base : Nat} {e : TypeId} {v : Value} {n : Nat} {xs : List Value} (h : w.ownsRow base e 1 v n xs) {g : Nat} (hg : v.ownBlock = some g) : base ≤ g ∧ ∃ cur, w.heap[g]? = some (.cells cur e (0, 0)) := by
  rcases h.2 with ⟨rfl, _⟩ | ⟨g', cp, cur, rfl, hb, hh, _⟩
  · simp [Value.ownBlock] at hg
  · simp only [Value.ownBlock, Option.some.injEq] at hg
    subst hg
    exact ⟨hb, cur, hh⟩
theorem own_stay {w w' : World} {base : Nat} {e : TypeId} {v : Value} {n : Nat} {xs : List Value} (h : w.ownsRow base e 1 v n xs) (hs : ∀ g, v.ownBlock = some g → w'.heap[g]? = w.heap[g]?) : w'.ownsRow base e 1 v n xs := by
  refine ⟨h.1, ?_⟩
  rcases h.2 with hn | ⟨g, cap, cur, rfl, hb, hgg, rest⟩
  · exact .inl hn
  · exact .inr ⟨g, cap, cur, rfl, hb, by rw [hs g rfl]; exact hgg, rest⟩
theorem own_keep {w w' : World} {B n : Nat} {e : TypeId} {v : Value} {xs : List Value} (h : w.ownsRow B e 1 v n xs) (hb : Below w.heap.size w w') : w'.ownsRow B e 1 v n xs := own_stay h fun g hg => hb.block g (h.lt g hg).2
theorem own_shape {w : World} {base : Nat} {e : TypeId} {size : Nat} {v : Value} {n : Nat} {xs : List Value} (h : w.ownsRow base e size v n xs) : ∃ a cp, v = .slice a n cp := by
  rcases h.2 with ⟨rfl, rfl⟩ | ⟨g, cap, cur, rfl, _⟩
  · exact ⟨none, 0, rfl⟩
  · exact ⟨_, cap, rfl⟩
theorem own_base {w : World} {base base' : Nat} {e : TypeId} {v : Value} {n : Nat} {xs : List Value} (h : w.ownsRow base e 1 v n xs) (hb : base' ≤ base) : w.ownsRow base' e 1 v n xs := by
  refine ⟨h.1, ?_⟩
  rcases h.2 with hn | ⟨g, cap, cur, rfl, hbb, rest⟩
  · exact .inl hn
  · exact .inr ⟨g, cap, cur, rfl, Nat.le_trans hb hbb, rest⟩
theorem tag_ne {w : World} {i j : Nat} {cs cs' : Array Value} {t t' : TypeId} {fz fz' : Nat × Nat} (hi : w.heap[i]? = some (.cells cs t fz)) (hj : w.heap[j]? = some (.cells cs' t' fz')) (h : t ≠ t') : i ≠ j := by
  rintro rfl
  rw [hi] at hj
  simp at hj
  exact h hj.2.1
theorem below_only {B : Nat} {a w w' : World} {r : Option Nat} (h : Below B a w) (k : w.grownBy w' r) (hr : ∀ i, r = some i → B ≤ i) (hB : B ≤ w.heap.size) : Below B a w' :=
  h.trans ⟨k.os, k.tape, k.output, k.size, fun i hi => k.block i (by omega) (fun e => by have := hr i e.symm; omega)⟩
/-- Integers as cells. -/
def zs (l : List Int) : List Value := l.map (Value.int .i64)
theorem zs_length (l : List Int) : (zs l).length = l.length := by simp [zs]
theorem own_cell {w : World} {B n c : Nat} {a : Option Addr} {l : List Int} (h : w.ownsRow B 3 1 (.slice a n c) n (zs l)) {j : Nat} {x : Int} (hj : l[j]? = some x) : ∃ ad, a = some ad ∧ w.cell? (ad.add j) = some (.int .i64 x) := by
  have hn := h.1
  rw [zs_length] at hn
  have hjl : j < l.length := (List.getElem?_eq_some_iff.1 hj).1
  rcases h.2 with ⟨hv, h0⟩ | ⟨g, cap, cur, hv, hb, hh, e1, e2, e3, e4⟩
  · omega
  · injection hv with ea _ _
    refine ⟨_, ea, ?_⟩
    rw [cell_at hh]
    have h2 : (zs l)[j]? = some (.int .i64 x) := by simp [zs, hj]
    rw [← e4, List.getElem?_take_of_lt (by omega)] at h2
    simpa using h2
theorem grow_below (w : World) (os : Array Obj) : Below w.heap.size w (Sort.grow w os) :=
  ⟨rfl, rfl, rfl, by simp [Sort.grow], fun k hk => Sort.heap_grow_old _ _ hk⟩
/-- slices.Sort of a row of the call's own. -/
theorem sort_calls {w0 w : World} {g n cap : Nat} {l : List Int} (hb : Below w0.heap.size w0 w) (h : w.ownsRow w0.heap.size 3 1 (.slice (some ⟨g, 0, none⟩) n cap) n (zs l)) (hl : n ≤ 1000) :
    Calls Try.prog 27 #[.slice (some ⟨g, 0, none⟩) n cap] w fun e w' => e = .returned (.tuple #[]) ∧ w'.ownsRow w0.heap.size 3 1 (.slice (some ⟨g, 0, none⟩) n cap) n (zs (l.mergeSort fun x y => decide (x ≤ y))) ∧ Below w0.heap.size w0 w' := by
  obtain ⟨g', cap', e, hg, hlt, hc, hm, hn, hH⟩ := Lib.holds_of_ownsRow h (by simp)
  injection e with e1 e2 e3
  injection e1 with e1
  injection e1 with e1
  subst e1 e3
  subst hn
  refine (Try.slices_Sort_int g 0 cap l w hH hlt (by omega)).mono ?_
  rintro e w1 ⟨rfl, q, os, rfl⟩
  have h2 := Lib.ownsRow_putRow (q := q) (k := l.length) (ys := l.mergeSort fun x y => decide (x ≤ y)) h (by simp) (Nat.le_refl _)
  rw [List.take_of_length_le (by simp)] at h2
  exact ⟨rfl, own_keep h2 (grow_below _ _), (Lib.below_putRow hb hg).trans ((grow_below _ _).mono (by simpa [Sort.putRow, Sort.mapBlock, Sort.ahead] using hb.size))⟩
/-- slices.Compact of a row of the call's own. -/
theorem compact_calls {w0 w : World} {g n cap : Nat} {l : List Int} (hb : Below w0.heap.size w0 w) (h : w.ownsRow w0.heap.size 3 1 (.slice (some ⟨g, 0, none⟩) n cap) n (zs l)) (hl : n ≤ 1000) :
    Calls Try.prog 28 #[.slice (some ⟨g, 0, none⟩) n cap] w fun e w' => e = .returned (.slice (some ⟨g, 0, none⟩) (Lib.compact l).length cap) ∧ w'.ownsRow w0.heap.size 3 1 (.slice (some ⟨g, 0, none⟩) (Lib.compact l).length cap) (Lib.compact l).length (zs (Lib.compact l)) ∧ Below w0.heap.size w0 w' := by
  obtain ⟨g', cap', e, hg, hlt, hc, hm, hn, hH⟩ := Lib.holds_of_ownsRow h (by simp)
  injection e with e1 e2 e3
  injection e1 with e1
  injection e1 with e1
  subst e1 e3
  subst hn
  have hle := Lib.compact_length_le l
  refine (Try.slices_Compact_int g 0 cap l w hH (by omega) (by omega)).mono ?_
  rintro e w1 ⟨rfl, q, rfl⟩
  have h2 := Lib.ownsRow_putRow (q := q) (k := (Lib.compact l).length) (ys := Lib.compact l ++ List.replicate (l.length - (Lib.compact l).length) 0) h (by simp; omega) (by omega)
  rw [List.take_left] at h2
  exact ⟨rfl, h2, Lib.below_putRow hb hg⟩
end Go.Proofs.Ytjikkeajhogcdaa
