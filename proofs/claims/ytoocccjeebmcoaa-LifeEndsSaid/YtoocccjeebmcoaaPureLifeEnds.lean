/- From what is terminal nothing goes on, and what is created comes from nothing alone; no condition. -/
import Derived.Test.YtoocccjeebmcoaaPLifeEndsx4
namespace Go.Proofs.Ytoocccjeebmcoaa.Pure
open Go.RowKit Go.Proofs.Ytoocccjeebmcoaa.PLifeEnds Go.Proofs.YtoocccjeebmcoaaW.PrintWords Go.Proofs.YtoocccjeebmcoaaW.PrintLast

/-- The next state of a stage or task; 0: none. -/
def wk (s m : Int) : Int := if m = 1 ∧ s = 0 then 1 else if m = 2 ∧ s = 1 then 2 else if m = 3 ∧ (s = 1 ∨ s = 2) then 3 else if m = 9 ∧ s = 4 then 3 else if m = 4 ∧ s = 3 then 5 else if m = 6 ∧ s = 3 then 7 else if m = 8 ∧ s = 3 then 4 else if m = 5 ∧ (s = 1 ∨ s = 2 ∨ s = 3 ∨ s = 4) then 6 else 0
/-- The next state of a milestone or listener; 0: none. -/
def pn (s m : Int) : Int := if m = 1 ∧ s = 0 then 1 else if m = 9 ∧ s = 4 then 1 else if m = 7 ∧ s = 1 then 5 else if m = 8 ∧ s = 1 then 4 else if m = 5 ∧ (s = 1 ∨ s = 4) then 6 else 0
def nx (k s m : Int) : Int := if k = 1 ∨ k = 2 then wk s m else if k = 3 ∨ k = 4 then pn s m else 0
theorem states (s : Int) : s = 0 ∨ s = 1 ∨ s = 2 ∨ s = 3 ∨ s = 4 ∨ (s ≠ 0 ∧ s ≠ 1 ∧ s ≠ 2 ∧ s ≠ 3 ∧ s ≠ 4) := by omega
theorem moves (m : Int) : m = 1 ∨ m = 2 ∨ m = 3 ∨ m = 4 ∨ m = 5 ∨ m = 6 ∨ m = 7 ∨ m = 8 ∨ m = 9 ∨ (m ≠ 1 ∧ m ≠ 2 ∧ m ≠ 3 ∧ m ≠ 4 ∧ m ≠ 5 ∧ m ≠ 6 ∧ m ≠ 7 ∧ m ≠ 8 ∧ m ≠ 9) := by omega
theorem kinds (k : Int) : k = 1 ∨ k = 2 ∨ k = 3 ∨ k = 4 ∨ (k ≠ 1 ∧ k ≠ 2 ∧ k ≠ 3 ∧ k ≠ 4) := by omega
set_option maxHeartbeats 1000000 in
theorem work_eq (n : Nat) (s m : Int) : life_work.f (n + 20) s m = some (wk s m) := by
  rcases states s with rfl | rfl | rfl | rfl | rfl | ⟨h0, h1, h2, h3, h4⟩ <;>
  rcases moves m with rfl | rfl | rfl | rfl | rfl | rfl | rfl | rfl | rfl | ⟨g1, g2, g3, g4, g5, g6, g7, g8, g9⟩ <;>
  simp [life_work.f, life_work.j0, life_work.j1, life_work.j2, life_work.j3, life_work.j4, life_work.j5, life_work.j6, life_work.j7, wk, *]
set_option maxHeartbeats 1000000 in
theorem point_eq (n : Nat) (s m : Int) : life_point.f (n + 20) s m = some (pn s m) := by
  rcases states s with rfl | rfl | rfl | rfl | rfl | ⟨h0, h1, h2, h3, h4⟩ <;>
  rcases moves m with rfl | rfl | rfl | rfl | rfl | rfl | rfl | rfl | rfl | ⟨g1, g2, g3, g4, g5, g6, g7, g8, g9⟩ <;>
  simp [life_point.f, life_point.j0, life_point.j1, life_point.j2, life_point.j3, pn, *]
theorem next_eq (n : Nat) (k s m : Int) : life_Next.f (n + 20) k s m = some (nx k s m, nx k s m != 0) := by
  rcases kinds k with rfl | rfl | rfl | rfl | ⟨g1, g2, g3, g4⟩ <;>
  simp [life_Next.f, life_isWork.f, life_isPoint.f, work_eq, point_eq, nx, *]
theorem known_eq (n : Nat) : dossierlaw13_known.f (n + 20) = some true := by
  simp [dossierlaw13_known.f, next_eq, nx, wk, life_Terminal.f, life_Asked.f, life_Asked.j0, life_Asked.j1]
theorem next_at {n : Nat} (h : 20 ≤ n) (k s m : Int) : life_Next.f n k s m = some (nx k s m, nx k s m != 0) := by
  obtain ⟨j, rfl⟩ : ∃ j, n = j + 20 := ⟨n - 20, by omega⟩
  exact next_eq j k s m
theorem known_at {n : Nat} (h : 20 ≤ n) : dossierlaw13_known.f n = some true := by
  obtain ⟨j, rfl⟩ : ∃ j, n = j + 20 := ⟨n - 20, by omega⟩
  exact known_eq j
theorem terminal_eq (s : Int) : life_Terminal.f s = some (decide (s = 5 ∨ s = 6 ∨ s = 7)) := by
  unfold life_Terminal.f; by_cases h5 : s = 5 <;> by_cases h6 : s = 6 <;> by_cases h7 : s = 7 <;> simp_all

set_option maxHeartbeats 4000000 in
theorem LifeEnds : dossierlaw13_LifeEnds.Pure := by
  intro k s m _ _ _
  refine ⟨1 + 20, ?_⟩
  unfold dossierlaw13_LifeEnds.f
  rw [next_eq, terminal_eq]
  simp only [dossierlaw13_LifeEnds.j0, known_eq, Option.bind_some]
  rcases kinds k with rfl | rfl | rfl | rfl | ⟨d1, d2, d3, d4⟩ <;>
  rcases states s with rfl | rfl | rfl | rfl | rfl | ⟨h0, h1, h2, h3, h4⟩ <;>
  rcases moves m with rfl | rfl | rfl | rfl | rfl | rfl | rfl | rfl | rfl | ⟨g1, g2, g3, g4, g5, g6, g7, g8, g9⟩ <;>
  simp [nx, wk, pn, *] <;> omega

end Go.Proofs.Ytoocccjeebmcoaa.Pure
