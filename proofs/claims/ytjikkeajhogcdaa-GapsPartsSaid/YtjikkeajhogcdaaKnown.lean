/- known: of two boxes with a gap the gap is found; walked; no condition. -/
import Derived.Test.YtjikkeajhogcdaaTop
namespace Go.Proofs.Ytjikkeajhogcdaa
open Go.RowKit Go.Proofs.YtjikkeajhogcdaaW.PrintWords Go.Proofs.YtjikkeajhogcdaaW.PrintLast Go.Proofs.YtjikkeajhogcdaaW.PrintMore PGapsTells
theorem ints_mk {w : World} {ad : Addr} {l : List Int} (hn : l.length ≤ 1000) (h : ∀ j x, l[j]? = some x → w.cell? (ad.add j) = some (.int .i64 x)) : Kd.C (Kd.int .i64) w (some ad) l.length l := by
  refine ⟨rfl, by omega, fun _ => ⟨ad, rfl, fun j x hj => ⟨[.int .i64 x], rfl, rfl, fun i u hi => ?_⟩⟩⟩
  cases i with
  | zero =>
    simp only [List.getElem?_cons_zero, Option.some.injEq] at hi
    subst hi
    have hsz : (Kd.int .i64).sz = 1 := rfl
    rw [hsz, Nat.mul_one]
    exact h j x hj
  | succ i => simp at hi
theorem boxes_mk {w : World} {ad : Addr} {l : List S25} (hn : l.length ≤ 1000) (h : ∀ j b, l[j]? = some b → ∃ A0 c0 A1 c1, w.cell? (ad.add (j * 2)) = some (.slice A0 b.f0.length c0) ∧ w.cell? (ad.add (j * 2 + 1)) = some (.slice A1 b.f1.length c1) ∧ b.f0.length ≤ c0 ∧ Kd.C (Kd.int .i64) w A0 b.f0.length b.f0 ∧ b.f1.length ≤ c1 ∧ Kd.C (Kd.int .i64) w A1 b.f1.length b.f1) : Kd.C k25 w (some ad) l.length l := by
  refine ⟨rfl, by omega, fun _ => ⟨ad, rfl, fun j b hj => ?_⟩⟩
  obtain ⟨A0, c0, A1, c1, e0, e1, l0, g0, l1, g1⟩ := h j b hj
  refine ⟨[.slice A0 b.f0.length c0, .slice A1 b.f1.length c1], rfl, k25_mk w b l0 g0 l1 g1, fun i u hi => ?_⟩
  have hsz : k25.sz = 2 := rfl
  rw [hsz]
  match i, hi with
  | 0, hi =>
    simp only [List.getElem?_cons_zero, Option.some.injEq] at hi
    subst hi
    exact e0
  | 1, hi =>
    simp only [List.getElem?_cons_succ, List.getElem?_cons_zero, Option.some.injEq] at hi
    subst hi
    exact e1
  | i + 2, hi => simp at hi
def kB : List S25 := [⟨[0], [3]⟩, ⟨[5], [9]⟩]
theorem kB_steps : stepsF kB [0] [9] 0 = [0, 4] := by
  have h1 : cand kB [0] [9] 0 = [0, 4] := by decide
  unfold stepsF
  rw [h1, List.mergeSort_of_pairwise (by simp)]
  rfl
theorem kB_hole : holeF kB [0] [9] 1 [] = some [4] := by
  have h0 : covB kB [0] = true := by decide
  have h4 : covB kB [4] = false := by decide
  simp [holeF, kB_steps, firstSome, h0, h4]
theorem kB_ok : Boxes kB [0] [9] := by
  refine ⟨by decide, by decide, rfl, by decide, fun b hb j => ?_⟩
  simp [kB] at hb
  rcases hb with rfl | rfl
  · cases j <;> simp [at_]
  · cases j <;> simp [at_]
theorem push_lt {a : Array Obj} {x : Obj} {i : Nat} (h : i < a.size) : (a.push x)[i]? = a[i]? := by
  rw [Array.getElem?_push, if_neg (by omega)]
theorem push_at {a : Array Obj} {x : Obj} {i : Nat} (h : i = a.size) : (a.push x)[i]? = some x := by
  rw [Array.getElem?_push, if_pos h]
theorem seven (w : World) (o0 o1 o2 o3 o4 o5 o6 : Obj) : ∀ W, (((((((w.alloc o0).alloc o1).alloc o2).alloc o3).alloc o4).alloc o5).alloc o6) = W →
    W.heap[w.heap.size]? = some o0 ∧ W.heap[w.heap.size + 1]? = some o1 ∧ W.heap[w.heap.size + 1 + 1]? = some o2 ∧ W.heap[w.heap.size + 1 + 1 + 1]? = some o3 ∧ W.heap[w.heap.size + 1 + 1 + 1 + 1]? = some o4 ∧ W.heap[w.heap.size + 1 + 1 + 1 + 1 + 1]? = some o5 ∧ W.heap[w.heap.size + 1 + 1 + 1 + 1 + 1 + 1]? = some o6 ∧ Below w.heap.size w W := by
  rintro W rfl
  have hB : Below w.heap.size w (((((((w.alloc o0).alloc o1).alloc o2).alloc o3).alloc o4).alloc o5).alloc o6) := ((((((((Below.refl _ _).alloc (Nat.le_refl _) _).alloc (by simp) _).alloc (by simp; omega) _).alloc (by simp; omega) _).alloc (by simp; omega) _).alloc (by simp; omega) _).alloc (by simp; omega) _)
  refine ⟨?_, ?_, ?_, ?_, ?_, ?_, ?_, hB⟩ <;>
    (show (((((((w.heap.push o0).push o1).push o2).push o3).push o4).push o5).push o6)[_]? = _
     repeat (first | exact push_at (by simp) | rw [push_lt (by simp only [Array.size_push]; omega)]))
theorem one_int {w : World} {g : Nat} {x : Int} (h : w.heap[g]? = some (.cells #[.int .i64 x] 3 (0, 0))) : Kd.C (Kd.int .i64) w (some ⟨g, 0, none⟩) 1 [x] :=
  ints_mk (l := [x]) (by simp) fun j y hj => by
    rw [cell_at h j]
    cases j with
    | zero => simp at hj; simp [hj]
    | succ j => simp at hj
set_option maxHeartbeats 1000000 in
theorem known_true (w : World) : Calls Try.prog 9 #[] w fun e w' => e = .returned (.bool true) ∧ Below w.heap.size w w' := by
  go_enter Try.func9, Try.ntmps9
  go_wp2_with fail
  generalize hW : (World.alloc _ _) = W
  obtain ⟨e0, e1, e2, e3, e4, e5, e6, hB⟩ := seven w _ _ _ _ _ _ _ W hW
  have hk : Kd.C k25 W (some ⟨w.heap.size + 1 + 1 + 1 + 1, 0, none⟩) kB.length kB := boxes_mk (by decide) fun j b hj => by
    rw [cell_at e4, cell_at e4]
    match j, hj with
    | 0, hj =>
      simp [kB] at hj
      subst hj
      exact ⟨_, _, _, _, rfl, rfl, Nat.le_refl _, one_int e0, Nat.le_refl _, one_int e1⟩
    | 1, hj =>
      simp [kB] at hj
      subst hj
      exact ⟨_, _, _, _, rfl, rfl, Nat.le_refl _, one_int e2, Nat.le_refl _, one_int e3⟩
    | j + 2, hj => simp [kB] at hj
  have hc := Hole_calls kB [0] [9] kB_ok (some ⟨w.heap.size + 1 + 1 + 1 + 1, 0, none⟩) 2 (some ⟨w.heap.size + 1 + 1 + 1 + 1 + 1, 0, none⟩) 1 (some ⟨w.heap.size + 1 + 1 + 1 + 1 + 1 + 1, 0, none⟩) 1 W hk (one_int e5) (one_int e6)
  have HB := Lib.hid hB
  clear e0 e1 e2 e3 e4 e5 e6 hB hW hk
  refine hc.mono ?_
  rintro e w1 ⟨v, ok, rfl, hans, hb1⟩
  have hans2 : HAns W w1 (some [4]) v ok := kB_hole ▸ hans
  clear hans
  obtain ⟨rfl, ho⟩ := hans2
  obtain ⟨a, cp, rfl⟩ := own_shape ho
  obtain ⟨ad, rfl, hcell⟩ := own_cell ho (j := 0) (x := 4) rfl
  have hadd : ad.add 0 = ad := by simp [Addr.add]
  rw [hadd] at hcell
  have H1 := Lib.hid (HB.out.trans (hb1.mono HB.out.size))
  clear ho hb1 hc hadd
  go_wp2_with fail
  go_ret
  exact ⟨rfl, H1.out⟩
end Go.Proofs.Ytjikkeajhogcdaa
