/- The reference's boxes, walked: New, Put, Take; conditions: the box lies in the world, what waits in it lies in a row of its own. -/
import Derived.Test.YtadcdnenecmbgaaFirstLaw
import Derived.Maps.AppendAt
import Derived.Deep.AppendLies
namespace Go.Proofs.Ytadcdnenecmbgaa
open Go.Conc Go.RowKit

/-- A box of the reference's: its block q, with room for so many, the value v of its list, what the list holds. -/
def RefAt (w : World) (N q room : Nat) (v : Value) (L : List Int) : Prop :=
  w.heap[q]? = some (.cells #[v, .int .i64 (room : Int)] 51 (0, 0)) ∧ w.ownsRow N 3 1 v L.length (vals L)
/-- What a call on such a box does to the world: but the box's block and its row all that was there is as it was. -/
structure RefStep (w w' : World) (q : Nat) (v v' : Value) : Prop where
  os : w'.os = w.os
  tape : w'.tape = w.tape
  output : w'.output = w.output
  size : w.heap.size ≤ w'.heap.size
  block : ∀ i, i < w.heap.size → i ≠ q → some i ≠ v.ownBlock → w'.heap[i]? = w.heap[i]?
  new : v'.ownBlock = v.ownBlock ∨ ∀ g, v'.ownBlock = some g → w.heap.size ≤ g
theorem own_info {w : World} {base : Nat} {e : TypeId} {v : Value} {n : Nat} {xs : List Value} (h : w.ownsRow base e 1 v n xs) {g : Nat} (hg : v.ownBlock = some g) : base ≤ g ∧ ∃ cur, w.heap[g]? = some (.cells cur e (0, 0)) := by
  rcases h.2 with ⟨rfl, _⟩ | ⟨g', cp, cur, rfl, hb, hh, _⟩
  · simp [Value.ownBlock] at hg
  · simp only [Value.ownBlock, Option.some.injEq] at hg
    subst hg
    exact ⟨hb, cur, hh⟩
theorem own_stay {w w' : World} {base : Nat} {e : TypeId} {v : Value} {n : Nat} {xs : List Value} (h : w.ownsRow base e 1 v n xs) (hs : ∀ g, v.ownBlock = some g → w'.heap[g]? = w.heap[g]?) : w'.ownsRow base e 1 v n xs := by
  refine ⟨h.1, ?_⟩
  rcases h.2 with hn | ⟨g, cap, cur, rfl, hb, hgg, rest⟩
  · exact .inl hn
  · exact .inr ⟨g, cap, cur, rfl, hb, by rw [hs g rfl]; exact hgg, rest⟩

theorem ref_new (n : Nat) (w : World) : Calls Try.prog 18 #[.int .i64 (n : Int)] w fun e w' => e = .returned (.pointer (some ⟨w.heap.size, 0, none⟩)) ∧ w.alloc (.cells #[.slice none 0 0, .int .i64 (n : Int)] 51) = w' := by
  go_enter Try.func18, Try.ntmps18
  go_wp2
  go_ret
  exact ⟨rfl, rfl⟩
theorem ref_new_neg (x : Int) (h : x ≤ 0) (w : World) : Calls Try.prog 18 #[.int .i64 x] w fun e w' => e = .returned (.pointer (some ⟨w.heap.size, 0, none⟩)) ∧ w.alloc (.cells #[.slice none 0 0, .int .i64 0] 51) = w' := by
  by_cases h0 : x = 0
  · subst h0
    exact ref_new 0 w
  · have hx : x < 0 := by omega
    clear h0 h
    go_enter Try.func18, Try.ntmps18
    go_wp2
    go_ret
    exact ⟨rfl, rfl⟩

theorem ref_put_full (N q room : Nat) (v : Value) (L : List Int) (x : Int) (w : World) (h : RefAt w N q room v L) (hl : room ≤ L.length) :
    Calls Try.prog 19 #[.pointer (some ⟨q, 0, none⟩), .int .i64 x] w fun e w' => e = .returned (.bool false) ∧ ∃ n, w.drewN n = w' := by
  obtain ⟨hq, hown⟩ := h
  obtain ⟨ao, cp, rfl⟩ := own_shape hown
  have hc0 : w.cell? ⟨q, 0, none⟩ = some (.slice ao L.length cp) := cell_at hq 0
  have hc1 : w.cell? ⟨q, 1, none⟩ = some (.int .i64 (room : Int)) := cell_at hq 1
  clear hq hown
  go_enter Try.func19, Try.ntmps19
  go_wp2_with fail
  go_quiet (fail)
  go_wp2_with fail
  go_ret
  exact ⟨rfl, _, rfl⟩
set_option maxHeartbeats 1000000 in
theorem ref_put_room (N q room : Nat) (v : Value) (L : List Int) (x : Int) (w : World) (h : RefAt w N q room v L) (hl : L.length < room) (hr : room ≤ 1000) (hN : N ≤ w.heap.size) :
    Calls Try.prog 19 #[.pointer (some ⟨q, 0, none⟩), .int .i64 x] w fun e w' => e = .returned (.bool true) ∧ ∃ v', RefAt w' N q room v' (L ++ [x]) ∧ RefStep w w' q v v' := by
  obtain ⟨i0, hi, hz0, hz1, hz2⟩ := info_parts info3
  obtain ⟨hq, hown⟩ := h
  obtain ⟨ao, cp, rfl⟩ := own_shape hown
  have hc0 : w.cell? ⟨q, 0, none⟩ = some (.slice ao L.length cp) := cell_at hq 0
  have hc1 : w.cell? ⟨q, 1, none⟩ = some (.int .i64 (room : Int)) := cell_at hq 1
  have hlq : q < w.heap.size := (Array.getElem?_eq_some_iff.1 hq).1
  have hne : ∀ g, (Value.slice ao L.length cp).ownBlock = some g → g ≠ q ∧ N ≤ g ∧ g < w.heap.size := fun g hg => by
    obtain ⟨hb, cur, hh⟩ := own_info hown hg
    refine ⟨fun e => ?_, hb, (Array.getElem?_eq_some_iff.1 hh).1⟩
    subst e
    rw [hh] at hq
    simp at hq
  have HQ := Lib.hid hq
  have HNE := Lib.hid hne
  clear hq hne
  go_enter Try.func19, Try.ntmps19
  go_wp2_with fail
  go_quiet (fail)
  go_wp2_with (at_builtin; refine wpList_append_own_at _ rfl _ _ 22 rfl N 3 i0 (.int .i64 0) 1 8 Try.underlying22 hi hz0 hz1 hz2 rfl (by decide) _ _ _ rfl (World.ownsRow.alloc (w := w.drewN nq) hown _) ⟨w.heap.size, 0, none⟩ 1 1 [.int .i64 x] rfl rfl ?c1 ?c2 ?c3 ?c4 ?c5 ?_)
  case c1 => exact cell_one_new (w.drewN nq) (.int .i64 x) 3
  case c2 => intro u hu; simp at hu; subst hu; rfl
  case c3 => unfold maxLen; omega
  case c4 => omega
  case c5 => simp; omega
  · intro v' w2 hown2 hgr _ hat
    obtain ⟨g, cp', rfl, _, hg2⟩ := hown2.form (by omega)
    have hq2 : w2.heap[q]? = some (.cells #[.slice ao L.length cp, .int .i64 (room : Int)] 51 (0, 0)) := by
      rw [hgr.block q (by simp; omega) (fun e => (HNE.out q e.symm).1 rfl)]
      rw [Below.heap_alloc _ _ _ (by exact hlq)]
      exact HQ.out
    have hd0 : w2.cell? ⟨q, 0, none⟩ = some (.slice ao L.length cp) := cell_of hq2 0
    have hf0 : w2.frozen? ⟨q, 0, none⟩ = false := free_of hq2 0
    have hfin : RefAt (w2.setCell ⟨q, 0, none⟩ (.slice (some ⟨g, 0, none⟩) (L.length + 1) cp')) N q room (.slice (some ⟨g, 0, none⟩) (L.length + 1) cp') (L ++ [x]) ∧
        RefStep w (w2.setCell ⟨q, 0, none⟩ (.slice (some ⟨g, 0, none⟩) (L.length + 1) cp')) q (.slice ao L.length cp) (.slice (some ⟨g, 0, none⟩) (L.length + 1) cp') := by
      have hgq : g ≠ q := by
        obtain ⟨_, cur, hh⟩ := own_info hown2 (g := g) rfl
        intro e
        subst e
        rw [hh] at hq2
        simp at hq2
      refine ⟨⟨by simpa using blk_set hq2 0 _, ?_⟩, ⟨hgr.os, hgr.tape, hgr.output, ?_, ?_, ?_⟩⟩
      · rw [vals_snoc, List.length_append]
        exact own_stay hown2 (fun g' e => by injection e with e; subst e; exact set_other _ _ _ _ hgq)
      · rw [set_size]
        exact Nat.le_trans (by simp) hgr.size
      · intro i hi hiq hio
        rw [set_other _ _ _ _ hiq, hgr.block i (by simp; omega) hio]
        exact Below.heap_alloc _ _ _ (by exact hi)
      · rcases hat with h | h
        · exact .inl h
        · refine .inr fun g' e => ?_
          rw [h] at e
          simp at e
          omega
    have HF := Lib.hid hfin
    clear hfin hat hgr hown2 hown hq2
    go_wp2_with fail
    go_ret
    exact ⟨rfl, _, HF.out⟩

theorem ref_take_none (N q room : Nat) (v : Value) (w : World) (h : RefAt w N q room v []) :
    Calls Try.prog 20 #[.pointer (some ⟨q, 0, none⟩)] w fun e w' => e = .returned (.tuple #[.int .i64 0, .bool false]) ∧ w = w' := by
  obtain ⟨hq, hown⟩ := h
  obtain ⟨ao, cp, rfl⟩ := own_shape hown
  have hc0 : w.cell? ⟨q, 0, none⟩ = some (.slice ao 0 cp) := cell_at hq 0
  clear hq hown
  go_enter Try.func20, Try.ntmps20
  go_wp2_with fail
  go_ret2
  exact ⟨rfl, rfl⟩
theorem vals_one (L : List Int) : ∀ u ∈ vals L, u.oneCell' = true := by
  intro u hu
  obtain ⟨x, _, rfl⟩ := List.mem_map.1 hu
  rfl
/-- A new empty row. -/
theorem empty_own (w : World) (N : Nat) (hN : N ≤ w.heap.size) : (w.alloc (.cells #[] 3)).ownsRow N 3 1 (.slice (some ⟨w.heap.size, 0, none⟩) 0 0) 0 [] :=
  ⟨rfl, .inr ⟨w.heap.size, 0, #[], rfl, hN, heap_alloc_new w _, Nat.le_refl _, by unfold maxLen; omega, rfl, rfl⟩⟩
theorem tail_cells {w : World} {N g cp : Nat} {x : Int} {L : List Int} (h : w.ownsRow N 3 1 (.slice (some ⟨g, 0, none⟩) (x :: L).length cp) (x :: L).length (vals (x :: L))) (hg : g < w.heap.size) :
    ∀ j u, (vals L)[j]? = some u → (w.alloc (.cells #[] 3)).cell? ((⟨g, 1, none⟩ : Addr).add j) = some u := by
  intro j u hj
  have hjl : j < L.length := by
    have := (List.getElem?_eq_some_iff.1 hj).1
    rwa [vals_length] at this
  have hc := h.cellAt (j + 1) (by simp; omega)
  have ha : (⟨g, 1, none⟩ : Addr).add j = ⟨g, j + 1, none⟩ := by
    unfold Addr.add
    split
    · simp_all
    · simp; omega
  rw [ha, World.cell?_of_block (a := ⟨g, j + 1, none⟩) (Below.heap_alloc w _ g hg), hc]
  simpa [vals] using hj
theorem far_q {w : World} {q room : Nat} {v : Value} {w2 : World} (hq : w.heap[q]? = some (.cells #[v, .int .i64 (room : Int)] 51 (0, 0)))
    (hgr : (w.alloc (.cells #[] 3)).grownBy w2 (Value.slice (some ⟨w.heap.size, 0, none⟩) 0 0).ownBlock) : w2.heap[q]? = some (.cells #[v, .int .i64 (room : Int)] 51 (0, 0)) := by
  have hlq : q < w.heap.size := (Array.getElem?_eq_some_iff.1 hq).1
  rw [hgr.block q (by simp; omega) (by simp [Value.ownBlock]; omega), Below.heap_alloc _ _ _ hlq]
  exact hq
theorem take_cell {w : World} {q room : Nat} {v : Value} {w2 : World} (hq : w.heap[q]? = some (.cells #[v, .int .i64 (room : Int)] 51 (0, 0)))
    (hgr : (w.alloc (.cells #[] 3)).grownBy w2 (Value.slice (some ⟨w.heap.size, 0, none⟩) 0 0).ownBlock) : w2.cell? ⟨q, 0, none⟩ = some v := cell_of (far_q hq hgr) 0
theorem take_free {w : World} {q room : Nat} {v : Value} {w2 : World} (hq : w.heap[q]? = some (.cells #[v, .int .i64 (room : Int)] 51 (0, 0)))
    (hgr : (w.alloc (.cells #[] 3)).grownBy w2 (Value.slice (some ⟨w.heap.size, 0, none⟩) 0 0).ownBlock) : w2.frozen? ⟨q, 0, none⟩ = false := free_of (far_q hq hgr) 0
theorem take_after {w : World} {N q room : Nat} {v v' : Value} {L : List Int} {w2 : World} (hq : w.heap[q]? = some (.cells #[v, .int .i64 (room : Int)] 51 (0, 0)))
    (hown2 : w2.ownsRow N 3 1 v' (0 + L.length) ([] ++ vals L)) (hgr : (w.alloc (.cells #[] 3)).grownBy w2 (Value.slice (some ⟨w.heap.size, 0, none⟩) 0 0).ownBlock)
    (hat : v'.ownBlock = (Value.slice (some ⟨w.heap.size, 0, none⟩) 0 0).ownBlock ∨ v'.ownBlock = some (w.alloc (.cells #[] 3)).heap.size) :
    RefAt (w2.setCell ⟨q, 0, none⟩ v') N q room v' L ∧ RefStep w (w2.setCell ⟨q, 0, none⟩ v') q v v' := by
  have hq2 := far_q hq hgr
  have hlq : q < w.heap.size := (Array.getElem?_eq_some_iff.1 hq).1
  have hnew : ∀ g, v'.ownBlock = some g → w.heap.size ≤ g := by
    intro g e
    rcases hat with h | h <;> rw [h] at e <;> simp [Value.ownBlock] at e <;> omega
  refine ⟨⟨by simpa using blk_set hq2 0 v', ?_⟩, ⟨hgr.os, hgr.tape, hgr.output, ?_, ?_, .inr hnew⟩⟩
  · simp only [Nat.zero_add, List.nil_append] at hown2
    exact own_stay hown2 (fun g e => set_other _ _ _ _ (by have := hnew g e; simp; omega))
  · rw [set_size]
    exact Nat.le_trans (by simp) hgr.size
  · intro i hi hiq _
    rw [set_other _ _ _ _ hiq, hgr.block i (by simp; omega) (by simp [Value.ownBlock]; omega)]
    exact Below.heap_alloc _ _ _ hi
set_option maxHeartbeats 1000000 in
theorem ref_take_some (N q room : Nat) (v : Value) (x : Int) (L : List Int) (w : World) (h : RefAt w N q room v (x :: L)) (hL : L.length ≤ 1000) (hN : N ≤ w.heap.size) :
    Calls Try.prog 20 #[.pointer (some ⟨q, 0, none⟩)] w fun e w' => e = .returned (.tuple #[.int .i64 x, .bool true]) ∧ ∃ v', RefAt w' N q room v' L ∧ RefStep w w' q v v' := by
  obtain ⟨i0, hi, hz0, hz1, hz2⟩ := info_parts info3
  obtain ⟨hq, hown⟩ := h
  obtain ⟨g, cp, rfl, hNg, hgl⟩ := hown.form (by simp)
  have hc0 : w.cell? ⟨q, 0, none⟩ = some (.slice (some ⟨g, 0, none⟩) (L.length + 1) cp) := cell_at hq 0
  have hg0 : w.cell? ⟨g, 0, none⟩ = some (.int .i64 x) := hown.cellAt 0 (by simp)
  have hlq : q < w.heap.size := (Array.getElem?_eq_some_iff.1 hq).1
  have hcap := hown.2
  have hle : L.length + 1 ≤ cp := by
    rcases hcap with ⟨h, _⟩ | ⟨g', cap', cur, h, _, _, h1, _⟩
    · simp at h
    · injection h with _ _ h3
      subst h3
      simpa using h1
  have HE := Lib.hid (empty_own w N hN)
  have HO := Lib.hid hown
  have HQ := Lib.hid hq
  clear hq hown hcap
  by_cases hcp : cp = 1
  · subst hcp
    obtain rfl : L = [] := by cases L <;> simp_all
    have HNEWS : Hid (∀ j u, (vals [])[j]? = some u → (w.alloc (.cells #[] 3)).cell? ((⟨g, 0, none⟩ : Addr).add j) = some u) := by intro j u hj; simp [vals] at hj
    go_enter Try.func20, Try.ntmps20
    go_wp2_with (at_builtin; refine wpList_append_own_at _ rfl _ _ 22 rfl N 3 i0 (.int .i64 0) 1 8 Try.underlying22 hi hz0 hz1 hz2 rfl (by decide) _ _ _ rfl HE.out ⟨g, 0, none⟩ 0 0 (vals []) rfl (by rw [vals_length]; simp) HNEWS.out (vals_one []) (by unfold maxLen; omega) (by omega) (by simp; omega) ?_; intro v' w2 hown2 hgr hiff hat; have HS := Lib.hid (take_after HQ.out hown2 hgr hat); obtain ⟨ao', cp', hv'⟩ := own_shape hown2; subst hv'; have hd0 := take_cell HQ.out hgr; have hf0 := take_free HQ.out hgr; clear hown2 hgr hiff hat)
    go_ret2
    exact ⟨rfl, _, HS.out⟩
  · have HNEWS := Lib.hid (tail_cells HO.out hgl)
    go_enter Try.func20, Try.ntmps20
    go_wp2_with (at_builtin; refine wpList_append_own_at _ rfl _ _ 22 rfl N 3 i0 (.int .i64 0) 1 8 Try.underlying22 hi hz0 hz1 hz2 rfl (by decide) _ _ _ rfl HE.out ⟨g, 1, none⟩ L.length (cp - 1) (vals L) rfl (by rw [vals_length]; simp) HNEWS.out (vals_one L) (by unfold maxLen; omega) (by omega) (by simp; omega) ?_; intro v' w2 hown2 hgr hiff hat; have HS := Lib.hid (take_after HQ.out hown2 hgr hat); obtain ⟨ao', cp', hv'⟩ := own_shape hown2; subst hv'; have hd0 := take_cell HQ.out hgr; have hf0 := take_free HQ.out hgr; clear hown2 hgr hiff hat)
    go_ret2
    have hfin := HS.out
    simp only [Nat.zero_add, List.length_cons] at hfin
    exact ⟨rfl, _, hfin⟩
end Go.Proofs.Ytadcdnenecmbgaa
