/- Whatever moves are tried, what is suspended comes back to where it was, and no way has more than four other moves; no condition. -/
import Derived.Test.YtoocccjeebmcoaaPLifeWalksx4
namespace Go.Proofs.Ytoocccjeebmcoaa.Pure
open Go.RowKit Go.Proofs.Ytoocccjeebmcoaa.PLifeWalks Go.Proofs.YtoocccjeebmcoaaW.PrintWords Go.Proofs.YtoocccjeebmcoaaW.PrintLast

/-- The next state of a stage or task; 0: none. -/
def wk (s m : Int) : Int := if m = 1 ∧ s = 0 then 1 else if m = 2 ∧ s = 1 then 2 else if m = 3 ∧ (s = 1 ∨ s = 2) then 3 else if m = 9 ∧ s = 4 then 3 else if m = 4 ∧ s = 3 then 5 else if m = 6 ∧ s = 3 then 7 else if m = 8 ∧ s = 3 then 4 else if m = 5 ∧ (s = 1 ∨ s = 2 ∨ s = 3 ∨ s = 4) then 6 else 0
/-- The next state of a milestone or listener; 0: none. -/
def pn (s m : Int) : Int := if m = 1 ∧ s = 0 then 1 else if m = 9 ∧ s = 4 then 1 else if m = 7 ∧ s = 1 then 5 else if m = 8 ∧ s = 1 then 4 else if m = 5 ∧ (s = 1 ∨ s = 4) then 6 else 0
def nx (k s m : Int) : Int := if k = 1 ∨ k = 2 then wk s m else if k = 3 ∨ k = 4 then pn s m else 0
theorem states (s : Int) : s = 0 ∨ s = 1 ∨ s = 2 ∨ s = 3 ∨ s = 4 ∨ (s ≠ 0 ∧ s ≠ 1 ∧ s ≠ 2 ∧ s ≠ 3 ∧ s ≠ 4) := by omega
theorem moves (m : Int) : m = 1 ∨ m = 2 ∨ m = 3 ∨ m = 4 ∨ m = 5 ∨ m = 6 ∨ m = 7 ∨ m = 8 ∨ m = 9 ∨ (m ≠ 1 ∧ m ≠ 2 ∧ m ≠ 3 ∧ m ≠ 4 ∧ m ≠ 5 ∧ m ≠ 6 ∧ m ≠ 7 ∧ m ≠ 8 ∧ m ≠ 9) := by omega
theorem kinds (k : Int) : k = 1 ∨ k = 2 ∨ k = 3 ∨ k = 4 ∨ (k ≠ 1 ∧ k ≠ 2 ∧ k ≠ 3 ∧ k ≠ 4) := by omega
set_option maxHeartbeats 1000000 in
theorem work_eq (n : Nat) (s m : Int) : life_work.f (n + 20) s m = some (wk s m) := by
  rcases states s with rfl | rfl | rfl | rfl | rfl | ⟨h0, h1, h2, h3, h4⟩ <;>
  rcases moves m with rfl | rfl | rfl | rfl | rfl | rfl | rfl | rfl | rfl | ⟨g1, g2, g3, g4, g5, g6, g7, g8, g9⟩ <;>
  simp [life_work.f, life_work.j0, life_work.j1, life_work.j2, life_work.j3, life_work.j4, life_work.j5, life_work.j6, life_work.j7, wk, *]
set_option maxHeartbeats 1000000 in
theorem point_eq (n : Nat) (s m : Int) : life_point.f (n + 20) s m = some (pn s m) := by
  rcases states s with rfl | rfl | rfl | rfl | rfl | ⟨h0, h1, h2, h3, h4⟩ <;>
  rcases moves m with rfl | rfl | rfl | rfl | rfl | rfl | rfl | rfl | rfl | ⟨g1, g2, g3, g4, g5, g6, g7, g8, g9⟩ <;>
  simp [life_point.f, life_point.j0, life_point.j1, life_point.j2, life_point.j3, pn, *]
theorem next_eq (n : Nat) (k s m : Int) : life_Next.f (n + 20) k s m = some (nx k s m, nx k s m != 0) := by
  rcases kinds k with rfl | rfl | rfl | rfl | ⟨g1, g2, g3, g4⟩ <;>
  simp [life_Next.f, life_isWork.f, life_isPoint.f, work_eq, point_eq, nx, *]
theorem known_eq (n : Nat) : dossierlaw13_known.f (n + 20) = some true := by
  simp [dossierlaw13_known.f, next_eq, nx, wk, life_Terminal.f, life_Asked.f, life_Asked.j0, life_Asked.j1]
theorem next_at {n : Nat} (h : 20 ≤ n) (k s m : Int) : life_Next.f n k s m = some (nx k s m, nx k s m != 0) := by
  obtain ⟨j, rfl⟩ : ∃ j, n = j + 20 := ⟨n - 20, by omega⟩
  exact next_eq j k s m
theorem known_at {n : Nat} (h : 20 ≤ n) : dossierlaw13_known.f n = some true := by
  obtain ⟨j, rfl⟩ : ∃ j, n = j + 20 := ⟨n - 20, by omega⟩
  exact known_eq j
theorem terminal_eq (s : Int) : life_Terminal.f s = some (decide (s = 5 ∨ s = 6 ∨ s = 7)) := by
  unfold life_Terminal.f; by_cases h5 : s = 5 <;> by_cases h6 : s = 6 <;> by_cases h7 : s = 7 <;> simp_all

/-- What holds at each round's head: the state, what was before the suspension, how many other moves there were. -/
def Inv (k s b c : Int) : Prop := 0 ≤ c ∧ ((s = 0 ∧ c = 0) ∨ (s = 1 ∧ c = 1) ∨ (s = 2 ∧ c = 2 ∧ k ≤ 2) ∨ (s = 3 ∧ c ≤ 3 ∧ k ≤ 2) ∨ (s = 4 ∧ ((k ≤ 2 ∧ c ≤ 3 ∧ b = 3) ∨ (3 ≤ k ∧ c = 1 ∧ b = 1))) ∨ (5 ≤ s ∧ s ≤ 7 ∧ c ≤ 4))
theorem inv_le {k s b c : Int} (h : Inv k s b c) : c ≤ 4 := by unfold Inv at h; omega
set_option maxHeartbeats 4000000 in
theorem inv_step {k s b c m : Int} (h1 : 1 ≤ k) (h4 : k ≤ 4) (h : Inv k s b c) (hn : nx k s m ≠ 0) :
    (m = 8 → Inv k (nx k s m) s c) ∧ (m = 9 → nx k s m = b ∧ Inv k (nx k s m) b c) ∧ (m ≠ 8 → m ≠ 9 → Inv k (nx k s m) b (wrap64 (c + 1))) := by
  have hw : wrap64 (c + 1) = c + 1 := by unfold Inv at h; unfold wrap64; omega
  rw [hw]
  have hk : k = 1 ∨ k = 2 ∨ k = 3 ∨ k = 4 := by omega
  rcases hk with rfl | rfl | rfl | rfl <;>
  rcases states s with rfl | rfl | rfl | rfl | rfl | ⟨h0, h1, h2, h3, h4⟩ <;>
  rcases moves m with rfl | rfl | rfl | rfl | rfl | rfl | rfl | rfl | rfl | ⟨g1, g2, g3, g4, g5, g6, g7, g8, g9⟩ <;>
  simp [nx, wk, pn, *] at hn <;> (simp [Inv] at h; simp [nx, wk, pn, Inv, *]; try omega)
theorem loop (k : Int) (h1 : 1 ≤ k) (h4 : k ≤ 4) (l : List Int) (hl : l.length ≤ 1000) (d : Nat) : ∀ (n : Nat) (s b c i : Int), d + 21 ≤ n → 0 ≤ i → i ≤ l.length → (l.length : Int) - i = d → Inv k s b c →
    dossierlaw13_LifeWalks.l0 n k l s b c i = some true := by
  induction d with
  | zero =>
    intro n s b c i hn h0 hi hd hI
    have hc := inv_le hI
    obtain ⟨n, rfl⟩ : ∃ j, n = j + 1 := ⟨n - 1, by omega⟩
    simp only [dossierlaw13_LifeWalks.l0]
    rw [if_neg (by omega), if_pos hc, known_at (by omega)]; rfl
  | succ d ih =>
    intro n s b c i hn h0 hi hd hI
    have hwi : wrap64 (i + 1) = i + 1 := by unfold wrap64; omega
    obtain ⟨n, rfl⟩ : ∃ j, n = j + 1 := ⟨n - 1, by omega⟩
    simp only [dossierlaw13_LifeWalks.l0]
    rw [if_pos (by omega), if_pos h0, next_at (by omega)]
    simp only [Option.bind_some]
    generalize wrap64 (1 + Go.bits .and .i64 (rd l i) 15) = m
    rw [hwi]
    by_cases hn : nx k s m = 0
    · simp only [hn, bne_self_eq_false, Bool.false_eq_true, if_false]
      exact ih n s b c (i + 1) (by omega) (by omega) (by omega) (by omega) hI
    · obtain ⟨a8, a9, a0⟩ := inv_step h1 h4 hI hn
      rw [if_pos (by simpa using hn)]
      by_cases e8 : m = 8
      · rw [if_pos e8]; exact ih n _ _ _ (i + 1) (by omega) (by omega) (by omega) (by omega) (a8 e8)
      · rw [if_neg e8]
        by_cases e9 : m = 9
        · rw [if_pos e9, if_pos (a9 e9).1]; exact ih n _ _ _ (i + 1) (by omega) (by omega) (by omega) (by omega) (a9 e9).2
        · rw [if_neg e9]; exact ih n _ _ _ (i + 1) (by omega) (by omega) (by omega) (by omega) (a0 e8 e9)
theorem LifeWalks : dossierlaw13_LifeWalks.Pure := by
  intro k l _ _ _ _
  refine ⟨l.length + 21 + 1, ?_⟩
  unfold dossierlaw13_LifeWalks.f
  by_cases a : k < 1
  · rw [if_pos a]; simp only [dossierlaw13_LifeWalks.j0]; rfl
  · rw [if_neg a]
    by_cases b : k > 4
    · rw [if_pos b]; simp only [dossierlaw13_LifeWalks.j0]; rfl
    · rw [if_neg b]; simp only [dossierlaw13_LifeWalks.j0]
      by_cases c : (l.length : Int) > 200
      · rw [if_pos (by simpa using c)]
      · rw [if_neg (by simpa using c)]
        exact loop k (by omega) (by omega) l (by omega) l.length _ 0 0 0 0 (by omega) (by omega) (by omega) (by omega) (by unfold Inv; omega)

end Go.Proofs.Ytoocccjeebmcoaa.Pure
