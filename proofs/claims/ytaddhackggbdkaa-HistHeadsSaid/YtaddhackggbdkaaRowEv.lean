/- A row of events written in place: one event, the cleared end, the cut; plain Lean over the machine's worlds, no walk; no condition. -/
import Derived.Test.YtaddhackggbdkaaClone
import Derived.Laws.CopyRow
namespace Go.Proofs.Ytaddhackggbdkaa
open Go.RowKit Go.Maps Go.Proofs.YtaddhackggbdkaaW.PrintWords Go.Proofs.YtaddhackggbdkaaW.PrintLast Go.Proofs.YtaddhackggbdkaaW.PrintMore PHistTells
structure RowAt (w : World) (g cap : Nat) (M : List S39) : Prop where
  cells : ∃ cur, w.heap[g]? = some (.cells cur 39 (0, 0)) ∧ cur.size = cap * 5 ∧ cur.toList.take (M.length * 5) = evs M
  le : M.length ≤ cap
  max : cap ≤ maxLen
theorem RowAt.own {w : World} {g cap B : Nat} {M : List S39} (h : RowAt w g cap M) (hB : B ≤ g) : Own w B (.slice (some ⟨g, 0, none⟩) M.length cap) M := by
  obtain ⟨cur, h1, h2, h3⟩ := h.cells
  exact ⟨evs_length M, .inr ⟨g, cap, cur, rfl, hB, h1, h.le, h.max, h2, h3⟩⟩
theorem Own.shape_rd {w : World} {g cap B n : Nat} {M : List S39} (h : Own w B (.slice (some ⟨g, 0, none⟩) n cap) M) : Rd w (some ⟨g, 0, none⟩) M := by
  obtain ⟨A, c, e, _, hr, _⟩ := h.shape
  injection e with e1 e2 e3
  rw [e1]
  exact hr
theorem RowAt.of_own {w : World} {g cap B n : Nat} {M : List S39} (h : Own w B (.slice (some ⟨g, 0, none⟩) n cap) M) : RowAt w g cap M ∧ B ≤ g := by
  rcases h.2 with ⟨e, _⟩ | ⟨g', cap', cur, e, hb, hh, h1, h2, h3, h4⟩
  · cases e
  · injection e with e1 e2 e3
    injection e1 with e1
    injection e1 with e1 _ _
    subst e1 e3
    exact ⟨⟨⟨cur, hh, h3, h4⟩, h1, h2⟩, hb⟩
theorem RowAt.same {w w' : World} {g cap : Nat} {M : List S39} (h : RowAt w g cap M) (hb : w'.heap[g]? = w.heap[g]?) : RowAt w' g cap M := by
  obtain ⟨⟨cur, h1, h2⟩, h3, h4⟩ := h
  exact ⟨⟨cur, hb.trans h1, h2⟩, h3, h4⟩
theorem RowAt.lt {w : World} {g cap : Nat} {M : List S39} (h : RowAt w g cap M) : g < w.heap.size := by
  obtain ⟨cur, h1, _⟩ := h.cells
  exact (Array.getElem?_eq_some_iff.1 h1).1
theorem RowAt.cut {w : World} {g cap : Nat} {M : List S39} (h : RowAt w g cap M) (i : Nat) (hi : i ≤ M.length) : RowAt w g cap (M.take i) := by
  obtain ⟨⟨cur, h1, h2, h3⟩, h4, h5⟩ := h
  have hl : (M.take i).length = i := by rw [List.length_take]; omega
  refine ⟨⟨cur, h1, h2, ?_⟩, by omega, h5⟩
  rw [hl]
  have e1 : cur.toList.take (i * 5) = (cur.toList.take (M.length * 5)).take (i * 5) := by rw [List.take_take]; congr 1; omega
  rw [e1, h3]
  have e2 : evs M = evs (M.take i) ++ evs (M.drop i) := by rw [← evs_append, List.take_append_drop]
  rw [e2, List.take_left' (by rw [evs_length, hl])]
theorem RowAt.ev {w : World} {g cap j : Nat} {M : List S39} {y : S39} (h : RowAt w g cap M) (hj : M[j]? = some y) : w.cell? ⟨g, j * 5, none⟩ = some (.int .i64 y.f0) ∧ w.cell? ⟨g, j * 5 + 1, none⟩ = some (.bool y.f1) ∧ w.cell? ⟨g, j * 5 + 2, none⟩ = some (.int .i64 y.f2) ∧ w.cell? ⟨g, j * 5 + 3, none⟩ = some (.int .i64 y.f3) ∧ w.cell? ⟨g, j * 5 + 4, none⟩ = some (.int .i64 y.f4) := by
  obtain ⟨cur, h1, h2, h3⟩ := h.cells
  have hlt := (List.getElem?_eq_some_iff.1 hj).1
  have key : ∀ i u, (_root_.Go.Proofs.Ytaddhackggbdkaa.ev y)[i]? = some u → i < 5 → w.cell? ⟨g, j * 5 + i, none⟩ = some u := fun i u hu hi => by
    rw [cell_of h1, ← Array.getElem?_toList]
    have h4 := evs_at M j y i u hj hu
    rw [← h3, List.getElem?_take, if_pos (by omega)] at h4
    exact h4
  exact ⟨key 0 _ rfl (by decide), key 1 _ rfl (by decide), key 2 _ rfl (by decide), key 3 _ rfl (by decide), key 4 _ rfl (by decide)⟩
theorem evs_set : ∀ (M : List S39) (i : Nat) (x : S39), i < M.length → evs (M.set i x) = ((((((evs M).set (i * 5) (.int .i64 x.f0)).set (i * 5 + 1) (.bool x.f1)).set (i * 5 + 2) (.int .i64 x.f2)).set (i * 5 + 3) (.int .i64 x.f3)).set (i * 5 + 4) (.int .i64 x.f4))
  | [], i, x, h => by simp at h
  | y :: M, 0, x, _ => by simp [evs, ev]
  | y :: M, i + 1, x, h => by
    rw [List.set_cons_succ, evs_cons, evs_set M i x (by simpa using h), evs_cons, show (i + 1) * 5 = i * 5 + 5 by omega]
    simp [ev]
/-- An event's five cells, stored. -/
def put5 (w : World) (a : Addr) (x : S39) : World := ((((w.setCell a (.int .i64 x.f0)).setCell ⟨a.block, a.off + 1, none⟩ (.bool x.f1)).setCell ⟨a.block, a.off + 2, none⟩ (.int .i64 x.f2)).setCell ⟨a.block, a.off + 3, none⟩ (.int .i64 x.f3)).setCell ⟨a.block, a.off + 4, none⟩ (.int .i64 x.f4)
theorem put5_size (w : World) (a : Addr) (x : S39) : (put5 w a x).heap.size = w.heap.size := by simp [put5]
theorem put5_other (w : World) (a : Addr) (x : S39) {i : Nat} (h : i ≠ a.block) : (put5 w a x).heap[i]? = w.heap[i]? := by
  unfold put5
  exact (set_other _ ⟨a.block, a.off + 4, none⟩ _ _ h).trans ((set_other _ ⟨a.block, a.off + 3, none⟩ _ _ h).trans ((set_other _ ⟨a.block, a.off + 2, none⟩ _ _ h).trans ((set_other _ ⟨a.block, a.off + 1, none⟩ _ _ h).trans (set_other _ a _ _ h))))
theorem put5_turn (w : World) (a : Addr) (x : S39) {F : Nat → Prop} (h : F a.block) : Turn w (put5 w a x) F := by
  unfold put5
  exact ((((Turn.of_set w a _ h).trans (Turn.of_set _ ⟨a.block, a.off + 1, none⟩ _ h) (fun _ _ hf => hf)).trans (Turn.of_set _ ⟨a.block, a.off + 2, none⟩ _ h) (fun _ _ hf => hf)).trans (Turn.of_set _ ⟨a.block, a.off + 3, none⟩ _ h) (fun _ _ hf => hf)).trans (Turn.of_set _ ⟨a.block, a.off + 4, none⟩ _ h) (fun _ _ hf => hf)
theorem RowAt.put {w : World} {g cap i : Nat} {M : List S39} (h : RowAt w g cap M) (x : S39) (hi : i < M.length) : RowAt (put5 w ⟨g, i * 5, none⟩ x) g cap (M.set i x) := by
  obtain ⟨⟨cur, h1, h2, h3⟩, h4, h5⟩ := h
  refine ⟨⟨_, blk_set (blk_set (blk_set (blk_set (blk_set h1 (i * 5) _) (i * 5 + 1) _) (i * 5 + 2) _) (i * 5 + 3) _) (i * 5 + 4) _, by simp [h2], ?_⟩, by simpa using h4, h5⟩
  rw [List.length_set, evs_set M i x hi, ← h3]
  simp only [Array.toList_setIfInBounds, List.take_set]
/-- clear(s[i:]) -/
theorem run_clear {w : World} {g cap : Nat} {M : List S39} (ty : TypeId) (h : RowAt w g cap M) (i c : Nat) (hi : i ≤ M.length) :
    ∃ w', (Builtin.clear_ #[22] ty #[.slice (some ⟨g, i * 5, none⟩) (M.length - i) c]).run Try.prog w = .ok (.tuple #[]) w' ∧ w'.heap.size = w.heap.size ∧ Turn w w' (fun k => k = g) ∧ RowAt w' g cap (M.take i) := by
  rcases Nat.eq_zero_or_pos (M.length - i) with h0 | h0
  · refine ⟨w, ?_, rfl, Turn.refl _ _, h.cut i hi⟩
    rw [h0]
    simp [Builtin.clear_, run_underlying Try.underlying22]
  · obtain ⟨m, hm⟩ : ∃ m, M.length - i = m + 1 := ⟨M.length - i - 1, by omega⟩
    obtain ⟨cur, h1, h2, h3⟩ := h.cells
    have h4 := h.le
    obtain ⟨zs, hzs⟩ : ∃ zs, (Builtin.zeroCells (Value.agg #[.int .i64 0, .bool false, .int .i64 0, .int .i64 0, .int .i64 0]).cells (m + 1)).toList = zs := ⟨_, rfl⟩
    have hlz : zs.length = (m + 1) * 5 := by rw [← hzs, Array.length_toList, size_zeroCells]; rfl
    have hz1 : ∀ v ∈ zs, v.oneCell' = true := by
      intro v hv
      rw [← hzs] at hv
      simp only [Builtin.zeroCells, Value.cells] at hv
      obtain ⟨k, hk, e⟩ := List.getElem_of_mem hv
      simp at e
      rw [← e]
      have : k % 5 < 5 := Nat.mod_lt _ (by decide)
      match k % 5, this with
      | 0, _ => rfl
      | 1, _ => rfl
      | 2, _ => rfl
      | 3, _ => rfl
      | 4, _ => rfl
    have hst := run_storeCells_at (P := Try.prog) g (i * 5) 39 zs 0 cur w h1 (by omega) hz1
    have hzero : ∀ w, (zeroValue 39).run Try.prog w = .ok (Value.agg #[.int .i64 0, .bool false, .int .i64 0, .int .i64 0, .int .i64 0]) w := fun w => by kernel_rfl
    refine ⟨w.setRow g (cur.toList.take (i * 5) ++ (zs ++ cur.toList.drop (i * 5 + zs.length))).toArray, ?_, ?_, ⟨rfl, rfl, rfl, ?_, fun k hk hne => setRow_other w g k _ hne⟩, ?_⟩
    · rw [hm]
      simp only [Builtin.clear_]
      simp [hzero, hzs, hst]
    · simp [World.setRow]
    · simp [World.setRow]
    · have hl : (M.take i).length = i := by rw [List.length_take]; omega
      refine ⟨⟨_, setRow_heap w g cur _ 39 _ h1, ?_, ?_⟩, by omega, h.max⟩
      · simp
        omega
      · rw [hl]
        have hcut := (h.cut i hi).cells
        obtain ⟨cur', e1, _, e3⟩ := hcut
        rw [h1] at e1
        simp only [Option.some.injEq, Obj.cells.injEq] at e1
        obtain ⟨rfl, _⟩ := e1
        rw [hl] at e3
        rw [← e3]
        rw [List.take_left' (by rw [List.length_take, Array.length_toList]; omega)]
end Go.Proofs.Ytaddhackggbdkaa
