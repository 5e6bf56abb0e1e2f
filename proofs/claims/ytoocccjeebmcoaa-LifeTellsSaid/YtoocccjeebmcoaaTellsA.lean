/- The Go function dossierref13.Next, walked: it answers what the printed Lean function answers; no condition. (By print.sh's pattern, each piece as an auxiliary lemma.) -/
import Derived.Test.YtoocccjeebmcoaaPLifeTellsx0
namespace Go.Proofs.Ytoocccjeebmcoaa.PLifeTells
open Go.RowKit Go.Proofs.YtoocccjeebmcoaaW.PrintWords Go.Proofs.YtoocccjeebmcoaaW.PrintLast Go.Proofs.YtoocccjeebmcoaaW.PrintMore
attribute [local go_sem] max2_int min2_int max_two min_two max_three min_three max_four min_four   -- for this text's walks alone
set_option linter.unusedVariables false
set_option linter.unusedSimpArgs false

/-! ### dossierref13_Next: function 9 -/
mutual
def dossierref13_Next.j0 : Nat → Int → Int → Int → Bool → Option (Int × Bool)
  | 0, _, _, _, _ => none
  | k + 1, x0, x1, x2, x8 => if x0 = 3 then (dossierref13_Next.j1 k x1 x2 x8 true) else (dossierref13_Next.j1 k x1 x2 x8 (x0 == 4))
def dossierref13_Next.j1 : Nat → Int → Int → Bool → Bool → Option (Int × Bool)
  | 0, _, _, _, _ => none
  | k + 1, x1, x2, x8, x9 => if x8 = true then (dossierref13_Next.j2 k x1 x2 x8 x9 false) else (dossierref13_Next.j2 k x1 x2 x8 x9 (!x9))
def dossierref13_Next.j2 : Nat → Int → Int → Bool → Bool → Bool → Option (Int × Bool)
  | 0, _, _, _, _, _ => none
  | k + 1, x1, x2, x8, x9, x22 => if x22 = true then (some (0, false)) else (if x2 = 1 then (dossierref13_Next.j3 k x1 x2 x8 x9 (x1 == 0)) else (dossierref13_Next.j3 k x1 x2 x8 x9 false))
def dossierref13_Next.j3 : Nat → Int → Int → Bool → Bool → Bool → Option (Int × Bool)
  | 0, _, _, _, _, _ => none
  | k + 1, x1, x2, x8, x9, x29 => if x29 = true then (some (1, true)) else (if x2 = 5 then (if x1 = 1 then (dossierref13_Next.j4 k x1 x2 x8 x9 true) else (if x1 = 4 then (dossierref13_Next.j4 k x1 x2 x8 x9 true) else (if x8 = true then (if x1 = 2 then (dossierref13_Next.j4 k x1 x2 x8 x9 true) else (dossierref13_Next.j4 k x1 x2 x8 x9 (x1 == 3))) else (dossierref13_Next.j4 k x1 x2 x8 x9 false)))) else (dossierref13_Next.j4 k x1 x2 x8 x9 false))
def dossierref13_Next.j4 : Nat → Int → Int → Bool → Bool → Bool → Option (Int × Bool)
  | 0, _, _, _, _, _ => none
  | k + 1, x1, x2, x8, x9, x36 => if x36 = true then (some (6, true)) else (if x8 = true then (if x2 = 2 then (dossierref13_Next.j5 k x1 x2 x8 x9 (x1 == 1)) else (dossierref13_Next.j5 k x1 x2 x8 x9 false)) else (dossierref13_Next.j5 k x1 x2 x8 x9 false))
def dossierref13_Next.j5 : Nat → Int → Int → Bool → Bool → Bool → Option (Int × Bool)
  | 0, _, _, _, _, _ => none
  | k + 1, x1, x2, x8, x9, x58 => if x58 = true then (some (2, true)) else (if x8 = true then (if x2 = 3 then (if x1 = 1 then (dossierref13_Next.j6 k x1 x2 x8 x9 true) else (dossierref13_Next.j6 k x1 x2 x8 x9 (x1 == 2))) else (dossierref13_Next.j6 k x1 x2 x8 x9 false)) else (dossierref13_Next.j6 k x1 x2 x8 x9 false))
def dossierref13_Next.j6 : Nat → Int → Int → Bool → Bool → Bool → Option (Int × Bool)
  | 0, _, _, _, _, _ => none
  | k + 1, x1, x2, x8, x9, x68 => if x68 = true then (some (3, true)) else (if x8 = true then (if x2 = 4 then (dossierref13_Next.j7 k x1 x2 x8 x9 (x1 == 3)) else (dossierref13_Next.j7 k x1 x2 x8 x9 false)) else (dossierref13_Next.j7 k x1 x2 x8 x9 false))
def dossierref13_Next.j7 : Nat → Int → Int → Bool → Bool → Bool → Option (Int × Bool)
  | 0, _, _, _, _, _ => none
  | k + 1, x1, x2, x8, x9, x82 => if x82 = true then (some (5, true)) else (if x8 = true then (if x2 = 6 then (dossierref13_Next.j8 k x1 x2 x8 x9 (x1 == 3)) else (dossierref13_Next.j8 k x1 x2 x8 x9 false)) else (dossierref13_Next.j8 k x1 x2 x8 x9 false))
def dossierref13_Next.j8 : Nat → Int → Int → Bool → Bool → Bool → Option (Int × Bool)
  | 0, _, _, _, _, _ => none
  | k + 1, x1, x2, x8, x9, x92 => if x92 = true then (some (7, true)) else (if x8 = true then (if x2 = 8 then (dossierref13_Next.j9 k x1 x2 x8 x9 (x1 == 3)) else (dossierref13_Next.j9 k x1 x2 x8 x9 false)) else (dossierref13_Next.j9 k x1 x2 x8 x9 false))
def dossierref13_Next.j9 : Nat → Int → Int → Bool → Bool → Bool → Option (Int × Bool)
  | 0, _, _, _, _, _ => none
  | k + 1, x1, x2, x8, x9, x102 => if x102 = true then (some (4, true)) else (if x8 = true then (if x2 = 9 then (dossierref13_Next.j10 k x1 x2 x9 (x1 == 4)) else (dossierref13_Next.j10 k x1 x2 x9 false)) else (dossierref13_Next.j10 k x1 x2 x9 false))
def dossierref13_Next.j10 : Nat → Int → Int → Bool → Bool → Option (Int × Bool)
  | 0, _, _, _, _ => none
  | k + 1, x1, x2, x9, x112 => if x112 = true then (some (3, true)) else (if x9 = true then (if x2 = 7 then (dossierref13_Next.j11 k x1 x2 x9 (x1 == 1)) else (dossierref13_Next.j11 k x1 x2 x9 false)) else (dossierref13_Next.j11 k x1 x2 x9 false))
def dossierref13_Next.j11 : Nat → Int → Int → Bool → Bool → Option (Int × Bool)
  | 0, _, _, _, _ => none
  | k + 1, x1, x2, x9, x122 => if x122 = true then (some (5, true)) else (if x9 = true then (if x2 = 8 then (dossierref13_Next.j12 k x1 x2 x9 (x1 == 1)) else (dossierref13_Next.j12 k x1 x2 x9 false)) else (dossierref13_Next.j12 k x1 x2 x9 false))
def dossierref13_Next.j12 : Nat → Int → Int → Bool → Bool → Option (Int × Bool)
  | 0, _, _, _, _ => none
  | k + 1, x1, x2, x9, x132 => if x132 = true then (some (4, true)) else (if x9 = true then (if x2 = 9 then (if x1 = 4 then (some (1, true)) else (some (0, false))) else (some (0, false))) else (some (0, false)))
end
def dossierref13_Next.f (k : Nat) (a0 : Int) (a1 : Int) (a2 : Int) : Option (Int × Bool) := if a0 = 1 then (dossierref13_Next.j0 k a0 a1 a2 true) else (dossierref13_Next.j0 k a0 a1 a2 (a0 == 2))
theorem dossierref13_Next.mono_l : ∀ k, (∀ y0 y1 y2 y3, LeO (dossierref13_Next.j0 k y0 y1 y2 y3) (dossierref13_Next.j0 (k + 1) y0 y1 y2 y3)) ∧ (∀ y0 y1 y2 y3, LeO (dossierref13_Next.j1 k y0 y1 y2 y3) (dossierref13_Next.j1 (k + 1) y0 y1 y2 y3)) ∧ (∀ y0 y1 y2 y3 y4, LeO (dossierref13_Next.j2 k y0 y1 y2 y3 y4) (dossierref13_Next.j2 (k + 1) y0 y1 y2 y3 y4)) ∧ (∀ y0 y1 y2 y3 y4, LeO (dossierref13_Next.j3 k y0 y1 y2 y3 y4) (dossierref13_Next.j3 (k + 1) y0 y1 y2 y3 y4)) ∧ (∀ y0 y1 y2 y3 y4, LeO (dossierref13_Next.j4 k y0 y1 y2 y3 y4) (dossierref13_Next.j4 (k + 1) y0 y1 y2 y3 y4)) ∧ (∀ y0 y1 y2 y3 y4, LeO (dossierref13_Next.j5 k y0 y1 y2 y3 y4) (dossierref13_Next.j5 (k + 1) y0 y1 y2 y3 y4)) ∧ (∀ y0 y1 y2 y3 y4, LeO (dossierref13_Next.j6 k y0 y1 y2 y3 y4) (dossierref13_Next.j6 (k + 1) y0 y1 y2 y3 y4)) ∧ (∀ y0 y1 y2 y3 y4, LeO (dossierref13_Next.j7 k y0 y1 y2 y3 y4) (dossierref13_Next.j7 (k + 1) y0 y1 y2 y3 y4)) ∧ (∀ y0 y1 y2 y3 y4, LeO (dossierref13_Next.j8 k y0 y1 y2 y3 y4) (dossierref13_Next.j8 (k + 1) y0 y1 y2 y3 y4)) ∧ (∀ y0 y1 y2 y3 y4, LeO (dossierref13_Next.j9 k y0 y1 y2 y3 y4) (dossierref13_Next.j9 (k + 1) y0 y1 y2 y3 y4)) ∧ (∀ y0 y1 y2 y3, LeO (dossierref13_Next.j10 k y0 y1 y2 y3) (dossierref13_Next.j10 (k + 1) y0 y1 y2 y3)) ∧ (∀ y0 y1 y2 y3, LeO (dossierref13_Next.j11 k y0 y1 y2 y3) (dossierref13_Next.j11 (k + 1) y0 y1 y2 y3)) ∧ (∀ y0 y1 y2 y3, LeO (dossierref13_Next.j12 k y0 y1 y2 y3) (dossierref13_Next.j12 (k + 1) y0 y1 y2 y3))
  | 0 => ⟨fun _ _ _ _ r h => by simp [dossierref13_Next.j0] at h, fun _ _ _ _ r h => by simp [dossierref13_Next.j1] at h, fun _ _ _ _ _ r h => by simp [dossierref13_Next.j2] at h, fun _ _ _ _ _ r h => by simp [dossierref13_Next.j3] at h, fun _ _ _ _ _ r h => by simp [dossierref13_Next.j4] at h, fun _ _ _ _ _ r h => by simp [dossierref13_Next.j5] at h, fun _ _ _ _ _ r h => by simp [dossierref13_Next.j6] at h, fun _ _ _ _ _ r h => by simp [dossierref13_Next.j7] at h, fun _ _ _ _ _ r h => by simp [dossierref13_Next.j8] at h, fun _ _ _ _ _ r h => by simp [dossierref13_Next.j9] at h, fun _ _ _ _ r h => by simp [dossierref13_Next.j10] at h, fun _ _ _ _ r h => by simp [dossierref13_Next.j11] at h, fun _ _ _ _ r h => by simp [dossierref13_Next.j12] at h⟩
  | k + 1 => by
    obtain ⟨ih0, ih1, ih2, ih3, ih4, ih5, ih6, ih7, ih8, ih9, ih10, ih11, ih12⟩ := dossierref13_Next.mono_l k
    refine ⟨?_, ?_, ?_, ?_, ?_, ?_, ?_, ?_, ?_, ?_, ?_, ?_, ?_⟩
    · intro y0 y1 y2 y3
      unfold dossierref13_Next.j0
      repeat' first
      | (with_reducible exact ih0 _ _ _ _)
      | (with_reducible exact ih1 _ _ _ _)
      | (with_reducible exact ih2 _ _ _ _ _)
      | (with_reducible exact ih3 _ _ _ _ _)
      | (with_reducible exact ih4 _ _ _ _ _)
      | (with_reducible exact ih5 _ _ _ _ _)
      | (with_reducible exact ih6 _ _ _ _ _)
      | (with_reducible exact ih7 _ _ _ _ _)
      | (with_reducible exact ih8 _ _ _ _ _)
      | (with_reducible exact ih9 _ _ _ _ _)
      | (with_reducible exact ih10 _ _ _ _)
      | (with_reducible exact ih11 _ _ _ _)
      | (with_reducible exact ih12 _ _ _ _)
      | (with_reducible exact LeO.refl _)
      | (with_reducible exact LeO.none _)
      | (with_reducible refine LeO.ite ?_ ?_)
      | (with_reducible refine LeO.bind ?_ (fun _ => ?_))
      | exact ih0 _ _ _ _
      | exact ih1 _ _ _ _
      | exact ih2 _ _ _ _ _
      | exact ih3 _ _ _ _ _
      | exact ih4 _ _ _ _ _
      | exact ih5 _ _ _ _ _
      | exact ih6 _ _ _ _ _
      | exact ih7 _ _ _ _ _
      | exact ih8 _ _ _ _ _
      | exact ih9 _ _ _ _ _
      | exact ih10 _ _ _ _
      | exact ih11 _ _ _ _
      | exact ih12 _ _ _ _
      | exact LeO.none _
      | refine LeO.ite ?_ ?_
      | refine LeO.bind ?_ (fun _ => ?_)
    · intro y0 y1 y2 y3
      unfold dossierref13_Next.j1
      repeat' first
      | (with_reducible exact ih0 _ _ _ _)
      | (with_reducible exact ih1 _ _ _ _)
      | (with_reducible exact ih2 _ _ _ _ _)
      | (with_reducible exact ih3 _ _ _ _ _)
      | (with_reducible exact ih4 _ _ _ _ _)
      | (with_reducible exact ih5 _ _ _ _ _)
      | (with_reducible exact ih6 _ _ _ _ _)
      | (with_reducible exact ih7 _ _ _ _ _)
      | (with_reducible exact ih8 _ _ _ _ _)
      | (with_reducible exact ih9 _ _ _ _ _)
      | (with_reducible exact ih10 _ _ _ _)
      | (with_reducible exact ih11 _ _ _ _)
      | (with_reducible exact ih12 _ _ _ _)
      | (with_reducible exact LeO.refl _)
      | (with_reducible exact LeO.none _)
      | (with_reducible refine LeO.ite ?_ ?_)
      | (with_reducible refine LeO.bind ?_ (fun _ => ?_))
      | exact ih0 _ _ _ _
      | exact ih1 _ _ _ _
      | exact ih2 _ _ _ _ _
      | exact ih3 _ _ _ _ _
      | exact ih4 _ _ _ _ _
      | exact ih5 _ _ _ _ _
      | exact ih6 _ _ _ _ _
      | exact ih7 _ _ _ _ _
      | exact ih8 _ _ _ _ _
      | exact ih9 _ _ _ _ _
      | exact ih10 _ _ _ _
      | exact ih11 _ _ _ _
      | exact ih12 _ _ _ _
      | exact LeO.none _
      | refine LeO.ite ?_ ?_
      | refine LeO.bind ?_ (fun _ => ?_)
    · intro y0 y1 y2 y3 y4
      unfold dossierref13_Next.j2
      repeat' first
      | (with_reducible exact ih0 _ _ _ _)
      | (with_reducible exact ih1 _ _ _ _)
      | (with_reducible exact ih2 _ _ _ _ _)
      | (with_reducible exact ih3 _ _ _ _ _)
      | (with_reducible exact ih4 _ _ _ _ _)
      | (with_reducible exact ih5 _ _ _ _ _)
      | (with_reducible exact ih6 _ _ _ _ _)
      | (with_reducible exact ih7 _ _ _ _ _)
      | (with_reducible exact ih8 _ _ _ _ _)
      | (with_reducible exact ih9 _ _ _ _ _)
      | (with_reducible exact ih10 _ _ _ _)
      | (with_reducible exact ih11 _ _ _ _)
      | (with_reducible exact ih12 _ _ _ _)
      | (with_reducible exact LeO.refl _)
      | (with_reducible exact LeO.none _)
      | (with_reducible refine LeO.ite ?_ ?_)
      | (with_reducible refine LeO.bind ?_ (fun _ => ?_))
      | exact ih0 _ _ _ _
      | exact ih1 _ _ _ _
      | exact ih2 _ _ _ _ _
      | exact ih3 _ _ _ _ _
      | exact ih4 _ _ _ _ _
      | exact ih5 _ _ _ _ _
      | exact ih6 _ _ _ _ _
      | exact ih7 _ _ _ _ _
      | exact ih8 _ _ _ _ _
      | exact ih9 _ _ _ _ _
      | exact ih10 _ _ _ _
      | exact ih11 _ _ _ _
      | exact ih12 _ _ _ _
      | exact LeO.none _
      | refine LeO.ite ?_ ?_
      | refine LeO.bind ?_ (fun _ => ?_)
    · intro y0 y1 y2 y3 y4
      unfold dossierref13_Next.j3
      repeat' first
      | (with_reducible exact ih0 _ _ _ _)
      | (with_reducible exact ih1 _ _ _ _)
      | (with_reducible exact ih2 _ _ _ _ _)
      | (with_reducible exact ih3 _ _ _ _ _)
      | (with_reducible exact ih4 _ _ _ _ _)
      | (with_reducible exact ih5 _ _ _ _ _)
      | (with_reducible exact ih6 _ _ _ _ _)
      | (with_reducible exact ih7 _ _ _ _ _)
      | (with_reducible exact ih8 _ _ _ _ _)
      | (with_reducible exact ih9 _ _ _ _ _)
      | (with_reducible exact ih10 _ _ _ _)
      | (with_reducible exact ih11 _ _ _ _)
      | (with_reducible exact ih12 _ _ _ _)
      | (with_reducible exact LeO.refl _)
      | (with_reducible exact LeO.none _)
      | (with_reducible refine LeO.ite ?_ ?_)
      | (with_reducible refine LeO.bind ?_ (fun _ => ?_))
      | exact ih0 _ _ _ _
      | exact ih1 _ _ _ _
      | exact ih2 _ _ _ _ _
      | exact ih3 _ _ _ _ _
      | exact ih4 _ _ _ _ _
      | exact ih5 _ _ _ _ _
      | exact ih6 _ _ _ _ _
      | exact ih7 _ _ _ _ _
      | exact ih8 _ _ _ _ _
      | exact ih9 _ _ _ _ _
      | exact ih10 _ _ _ _
      | exact ih11 _ _ _ _
      | exact ih12 _ _ _ _
      | exact LeO.none _
      | refine LeO.ite ?_ ?_
      | refine LeO.bind ?_ (fun _ => ?_)
    · intro y0 y1 y2 y3 y4
      unfold dossierref13_Next.j4
      repeat' first
      | (with_reducible exact ih0 _ _ _ _)
      | (with_reducible exact ih1 _ _ _ _)
      | (with_reducible exact ih2 _ _ _ _ _)
      | (with_reducible exact ih3 _ _ _ _ _)
      | (with_reducible exact ih4 _ _ _ _ _)
      | (with_reducible exact ih5 _ _ _ _ _)
      | (with_reducible exact ih6 _ _ _ _ _)
      | (with_reducible exact ih7 _ _ _ _ _)
      | (with_reducible exact ih8 _ _ _ _ _)
      | (with_reducible exact ih9 _ _ _ _ _)
      | (with_reducible exact ih10 _ _ _ _)
      | (with_reducible exact ih11 _ _ _ _)
      | (with_reducible exact ih12 _ _ _ _)
      | (with_reducible exact LeO.refl _)
      | (with_reducible exact LeO.none _)
      | (with_reducible refine LeO.ite ?_ ?_)
      | (with_reducible refine LeO.bind ?_ (fun _ => ?_))
      | exact ih0 _ _ _ _
      | exact ih1 _ _ _ _
      | exact ih2 _ _ _ _ _
      | exact ih3 _ _ _ _ _
      | exact ih4 _ _ _ _ _
      | exact ih5 _ _ _ _ _
      | exact ih6 _ _ _ _ _
      | exact ih7 _ _ _ _ _
      | exact ih8 _ _ _ _ _
      | exact ih9 _ _ _ _ _
      | exact ih10 _ _ _ _
      | exact ih11 _ _ _ _
      | exact ih12 _ _ _ _
      | exact LeO.none _
      | refine LeO.ite ?_ ?_
      | refine LeO.bind ?_ (fun _ => ?_)
    · intro y0 y1 y2 y3 y4
      unfold dossierref13_Next.j5
      repeat' first
      | (with_reducible exact ih0 _ _ _ _)
      | (with_reducible exact ih1 _ _ _ _)
      | (with_reducible exact ih2 _ _ _ _ _)
      | (with_reducible exact ih3 _ _ _ _ _)
      | (with_reducible exact ih4 _ _ _ _ _)
      | (with_reducible exact ih5 _ _ _ _ _)
      | (with_reducible exact ih6 _ _ _ _ _)
      | (with_reducible exact ih7 _ _ _ _ _)
      | (with_reducible exact ih8 _ _ _ _ _)
      | (with_reducible exact ih9 _ _ _ _ _)
      | (with_reducible exact ih10 _ _ _ _)
      | (with_reducible exact ih11 _ _ _ _)
      | (with_reducible exact ih12 _ _ _ _)
      | (with_reducible exact LeO.refl _)
      | (with_reducible exact LeO.none _)
      | (with_reducible refine LeO.ite ?_ ?_)
      | (with_reducible refine LeO.bind ?_ (fun _ => ?_))
      | exact ih0 _ _ _ _
      | exact ih1 _ _ _ _
      | exact ih2 _ _ _ _ _
      | exact ih3 _ _ _ _ _
      | exact ih4 _ _ _ _ _
      | exact ih5 _ _ _ _ _
      | exact ih6 _ _ _ _ _
      | exact ih7 _ _ _ _ _
      | exact ih8 _ _ _ _ _
      | exact ih9 _ _ _ _ _
      | exact ih10 _ _ _ _
      | exact ih11 _ _ _ _
      | exact ih12 _ _ _ _
      | exact LeO.none _
      | refine LeO.ite ?_ ?_
      | refine LeO.bind ?_ (fun _ => ?_)
    · intro y0 y1 y2 y3 y4
      unfold dossierref13_Next.j6
      repeat' first
      | (with_reducible exact ih0 _ _ _ _)
      | (with_reducible exact ih1 _ _ _ _)
      | (with_reducible exact ih2 _ _ _ _ _)
      | (with_reducible exact ih3 _ _ _ _ _)
      | (with_reducible exact ih4 _ _ _ _ _)
      | (with_reducible exact ih5 _ _ _ _ _)
      | (with_reducible exact ih6 _ _ _ _ _)
      | (with_reducible exact ih7 _ _ _ _ _)
      | (with_reducible exact ih8 _ _ _ _ _)
      | (with_reducible exact ih9 _ _ _ _ _)
      | (with_reducible exact ih10 _ _ _ _)
      | (with_reducible exact ih11 _ _ _ _)
      | (with_reducible exact ih12 _ _ _ _)
      | (with_reducible exact LeO.refl _)
      | (with_reducible exact LeO.none _)
      | (with_reducible refine LeO.ite ?_ ?_)
      | (with_reducible refine LeO.bind ?_ (fun _ => ?_))
      | exact ih0 _ _ _ _
      | exact ih1 _ _ _ _
      | exact ih2 _ _ _ _ _
      | exact ih3 _ _ _ _ _
      | exact ih4 _ _ _ _ _
      | exact ih5 _ _ _ _ _
      | exact ih6 _ _ _ _ _
      | exact ih7 _ _ _ _ _
      | exact ih8 _ _ _ _ _
      | exact ih9 _ _ _ _ _
      | exact ih10 _ _ _ _
      | exact ih11 _ _ _ _
      | exact ih12 _ _ _ _
      | exact LeO.none _
      | refine LeO.ite ?_ ?_
      | refine LeO.bind ?_ (fun _ => ?_)
    · intro y0 y1 y2 y3 y4
      unfold dossierref13_Next.j7
      repeat' first
      | (with_reducible exact ih0 _ _ _ _)
      | (with_reducible exact ih1 _ _ _ _)
      | (with_reducible exact ih2 _ _ _ _ _)
      | (with_reducible exact ih3 _ _ _ _ _)
      | (with_reducible exact ih4 _ _ _ _ _)
      | (with_reducible exact ih5 _ _ _ _ _)
      | (with_reducible exact ih6 _ _ _ _ _)
      | (with_reducible exact ih7 _ _ _ _ _)
      | (with_reducible exact ih8 _ _ _ _ _)
      | (with_reducible exact ih9 _ _ _ _ _)
      | (with_reducible exact ih10 _ _ _ _)
      | (with_reducible exact ih11 _ _ _ _)
      | (with_reducible exact ih12 _ _ _ _)
      | (with_reducible exact LeO.refl _)
      | (with_reducible exact LeO.none _)
      | (with_reducible refine LeO.ite ?_ ?_)
      | (with_reducible refine LeO.bind ?_ (fun _ => ?_))
      | exact ih0 _ _ _ _
      | exact ih1 _ _ _ _
      | exact ih2 _ _ _ _ _
      | exact ih3 _ _ _ _ _
      | exact ih4 _ _ _ _ _
      | exact ih5 _ _ _ _ _
      | exact ih6 _ _ _ _ _
      | exact ih7 _ _ _ _ _
      | exact ih8 _ _ _ _ _
      | exact ih9 _ _ _ _ _
      | exact ih10 _ _ _ _
      | exact ih11 _ _ _ _
      | exact ih12 _ _ _ _
      | exact LeO.none _
      | refine LeO.ite ?_ ?_
      | refine LeO.bind ?_ (fun _ => ?_)
    · intro y0 y1 y2 y3 y4
      unfold dossierref13_Next.j8
      repeat' first
      | (with_reducible exact ih0 _ _ _ _)
      | (with_reducible exact ih1 _ _ _ _)
      | (with_reducible exact ih2 _ _ _ _ _)
      | (with_reducible exact ih3 _ _ _ _ _)
      | (with_reducible exact ih4 _ _ _ _ _)
      | (with_reducible exact ih5 _ _ _ _ _)
      | (with_reducible exact ih6 _ _ _ _ _)
      | (with_reducible exact ih7 _ _ _ _ _)
      | (with_reducible exact ih8 _ _ _ _ _)
      | (with_reducible exact ih9 _ _ _ _ _)
      | (with_reducible exact ih10 _ _ _ _)
      | (with_reducible exact ih11 _ _ _ _)
      | (with_reducible exact ih12 _ _ _ _)
      | (with_reducible exact LeO.refl _)
      | (with_reducible exact LeO.none _)
      | (with_reducible refine LeO.ite ?_ ?_)
      | (with_reducible refine LeO.bind ?_ (fun _ => ?_))
      | exact ih0 _ _ _ _
      | exact ih1 _ _ _ _
      | exact ih2 _ _ _ _ _
      | exact ih3 _ _ _ _ _
      | exact ih4 _ _ _ _ _
      | exact ih5 _ _ _ _ _
      | exact ih6 _ _ _ _ _
      | exact ih7 _ _ _ _ _
      | exact ih8 _ _ _ _ _
      | exact ih9 _ _ _ _ _
      | exact ih10 _ _ _ _
      | exact ih11 _ _ _ _
      | exact ih12 _ _ _ _
      | exact LeO.none _
      | refine LeO.ite ?_ ?_
      | refine LeO.bind ?_ (fun _ => ?_)
    · intro y0 y1 y2 y3 y4
      unfold dossierref13_Next.j9
      repeat' first
      | (with_reducible exact ih0 _ _ _ _)
      | (with_reducible exact ih1 _ _ _ _)
      | (with_reducible exact ih2 _ _ _ _ _)
      | (with_reducible exact ih3 _ _ _ _ _)
      | (with_reducible exact ih4 _ _ _ _ _)
      | (with_reducible exact ih5 _ _ _ _ _)
      | (with_reducible exact ih6 _ _ _ _ _)
      | (with_reducible exact ih7 _ _ _ _ _)
      | (with_reducible exact ih8 _ _ _ _ _)
      | (with_reducible exact ih9 _ _ _ _ _)
      | (with_reducible exact ih10 _ _ _ _)
      | (with_reducible exact ih11 _ _ _ _)
      | (with_reducible exact ih12 _ _ _ _)
      | (with_reducible exact LeO.refl _)
      | (with_reducible exact LeO.none _)
      | (with_reducible refine LeO.ite ?_ ?_)
      | (with_reducible refine LeO.bind ?_ (fun _ => ?_))
      | exact ih0 _ _ _ _
      | exact ih1 _ _ _ _
      | exact ih2 _ _ _ _ _
      | exact ih3 _ _ _ _ _
      | exact ih4 _ _ _ _ _
      | exact ih5 _ _ _ _ _
      | exact ih6 _ _ _ _ _
      | exact ih7 _ _ _ _ _
      | exact ih8 _ _ _ _ _
      | exact ih9 _ _ _ _ _
      | exact ih10 _ _ _ _
      | exact ih11 _ _ _ _
      | exact ih12 _ _ _ _
      | exact LeO.none _
      | refine LeO.ite ?_ ?_
      | refine LeO.bind ?_ (fun _ => ?_)
    · intro y0 y1 y2 y3
      unfold dossierref13_Next.j10
      repeat' first
      | (with_reducible exact ih0 _ _ _ _)
      | (with_reducible exact ih1 _ _ _ _)
      | (with_reducible exact ih2 _ _ _ _ _)
      | (with_reducible exact ih3 _ _ _ _ _)
      | (with_reducible exact ih4 _ _ _ _ _)
      | (with_reducible exact ih5 _ _ _ _ _)
      | (with_reducible exact ih6 _ _ _ _ _)
      | (with_reducible exact ih7 _ _ _ _ _)
      | (with_reducible exact ih8 _ _ _ _ _)
      | (with_reducible exact ih9 _ _ _ _ _)
      | (with_reducible exact ih10 _ _ _ _)
      | (with_reducible exact ih11 _ _ _ _)
      | (with_reducible exact ih12 _ _ _ _)
      | (with_reducible exact LeO.refl _)
      | (with_reducible exact LeO.none _)
      | (with_reducible refine LeO.ite ?_ ?_)
      | (with_reducible refine LeO.bind ?_ (fun _ => ?_))
      | exact ih0 _ _ _ _
      | exact ih1 _ _ _ _
      | exact ih2 _ _ _ _ _
      | exact ih3 _ _ _ _ _
      | exact ih4 _ _ _ _ _
      | exact ih5 _ _ _ _ _
      | exact ih6 _ _ _ _ _
      | exact ih7 _ _ _ _ _
      | exact ih8 _ _ _ _ _
      | exact ih9 _ _ _ _ _
      | exact ih10 _ _ _ _
      | exact ih11 _ _ _ _
      | exact ih12 _ _ _ _
      | exact LeO.none _
      | refine LeO.ite ?_ ?_
      | refine LeO.bind ?_ (fun _ => ?_)
    · intro y0 y1 y2 y3
      unfold dossierref13_Next.j11
      repeat' first
      | (with_reducible exact ih0 _ _ _ _)
      | (with_reducible exact ih1 _ _ _ _)
      | (with_reducible exact ih2 _ _ _ _ _)
      | (with_reducible exact ih3 _ _ _ _ _)
      | (with_reducible exact ih4 _ _ _ _ _)
      | (with_reducible exact ih5 _ _ _ _ _)
      | (with_reducible exact ih6 _ _ _ _ _)
      | (with_reducible exact ih7 _ _ _ _ _)
      | (with_reducible exact ih8 _ _ _ _ _)
      | (with_reducible exact ih9 _ _ _ _ _)
      | (with_reducible exact ih10 _ _ _ _)
      | (with_reducible exact ih11 _ _ _ _)
      | (with_reducible exact ih12 _ _ _ _)
      | (with_reducible exact LeO.refl _)
      | (with_reducible exact LeO.none _)
      | (with_reducible refine LeO.ite ?_ ?_)
      | (with_reducible refine LeO.bind ?_ (fun _ => ?_))
      | exact ih0 _ _ _ _
      | exact ih1 _ _ _ _
      | exact ih2 _ _ _ _ _
      | exact ih3 _ _ _ _ _
      | exact ih4 _ _ _ _ _
      | exact ih5 _ _ _ _ _
      | exact ih6 _ _ _ _ _
      | exact ih7 _ _ _ _ _
      | exact ih8 _ _ _ _ _
      | exact ih9 _ _ _ _ _
      | exact ih10 _ _ _ _
      | exact ih11 _ _ _ _
      | exact ih12 _ _ _ _
      | exact LeO.none _
      | refine LeO.ite ?_ ?_
      | refine LeO.bind ?_ (fun _ => ?_)
    · intro y0 y1 y2 y3
      unfold dossierref13_Next.j12
      repeat' first
      | (with_reducible exact ih0 _ _ _ _)
      | (with_reducible exact ih1 _ _ _ _)
      | (with_reducible exact ih2 _ _ _ _ _)
      | (with_reducible exact ih3 _ _ _ _ _)
      | (with_reducible exact ih4 _ _ _ _ _)
      | (with_reducible exact ih5 _ _ _ _ _)
      | (with_reducible exact ih6 _ _ _ _ _)
      | (with_reducible exact ih7 _ _ _ _ _)
      | (with_reducible exact ih8 _ _ _ _ _)
      | (with_reducible exact ih9 _ _ _ _ _)
      | (with_reducible exact ih10 _ _ _ _)
      | (with_reducible exact ih11 _ _ _ _)
      | (with_reducible exact ih12 _ _ _ _)
      | (with_reducible exact LeO.refl _)
      | (with_reducible exact LeO.none _)
      | (with_reducible refine LeO.ite ?_ ?_)
      | (with_reducible refine LeO.bind ?_ (fun _ => ?_))
      | exact ih0 _ _ _ _
      | exact ih1 _ _ _ _
      | exact ih2 _ _ _ _ _
      | exact ih3 _ _ _ _ _
      | exact ih4 _ _ _ _ _
      | exact ih5 _ _ _ _ _
      | exact ih6 _ _ _ _ _
      | exact ih7 _ _ _ _ _
      | exact ih8 _ _ _ _ _
      | exact ih9 _ _ _ _ _
      | exact ih10 _ _ _ _
      | exact ih11 _ _ _ _
      | exact ih12 _ _ _ _
      | exact LeO.none _
      | refine LeO.ite ?_ ?_
      | refine LeO.bind ?_ (fun _ => ?_)
theorem dossierref13_Next.mono : ∀ a0 a1 a2 k, LeO (dossierref13_Next.f k a0 a1 a2) (dossierref13_Next.f (k + 1) a0 a1 a2) := by
  intro a0 a1 a2 k
  obtain ⟨ih0, ih1, ih2, ih3, ih4, ih5, ih6, ih7, ih8, ih9, ih10, ih11, ih12⟩ := dossierref13_Next.mono_l k
  unfold dossierref13_Next.f
  repeat' first
      | (with_reducible exact ih0 _ _ _ _)
      | (with_reducible exact ih1 _ _ _ _)
      | (with_reducible exact ih2 _ _ _ _ _)
      | (with_reducible exact ih3 _ _ _ _ _)
      | (with_reducible exact ih4 _ _ _ _ _)
      | (with_reducible exact ih5 _ _ _ _ _)
      | (with_reducible exact ih6 _ _ _ _ _)
      | (with_reducible exact ih7 _ _ _ _ _)
      | (with_reducible exact ih8 _ _ _ _ _)
      | (with_reducible exact ih9 _ _ _ _ _)
      | (with_reducible exact ih10 _ _ _ _)
      | (with_reducible exact ih11 _ _ _ _)
      | (with_reducible exact ih12 _ _ _ _)
      | (with_reducible exact LeO.refl _)
      | (with_reducible exact LeO.none _)
      | (with_reducible refine LeO.ite ?_ ?_)
      | (with_reducible refine LeO.bind ?_ (fun _ => ?_))
      | exact ih0 _ _ _ _
      | exact ih1 _ _ _ _
      | exact ih2 _ _ _ _ _
      | exact ih3 _ _ _ _ _
      | exact ih4 _ _ _ _ _
      | exact ih5 _ _ _ _ _
      | exact ih6 _ _ _ _ _
      | exact ih7 _ _ _ _ _
      | exact ih8 _ _ _ _ _
      | exact ih9 _ _ _ _ _
      | exact ih10 _ _ _ _
      | exact ih11 _ _ _ _
      | exact ih12 _ _ _ _
      | exact LeO.none _
      | refine LeO.ite ?_ ?_
      | refine LeO.bind ?_ (fun _ => ?_)
set_option maxHeartbeats 8000000 in
set_option maxRecDepth 100000 in
theorem dossierref13_Next.calls (k : Nat) (a0 : Int) (a1 : Int) (a2 : Int) (r1 : Int) (r2 : Bool) (w : World) (h : dossierref13_Next.f k a0 a1 a2 = some (r1, r2)) :
    Calls Try.prog 9 #[.int .i64 a0, .int .i64 a1, .int .i64 a2] w fun e w' => e = .returned (.tuple #[.int .i64 r1, .bool r2]) ∧ Drawn0 w w' := by
  have H : (if a0 = 1 then (dossierref13_Next.j0 k a0 a1 a2 true) else (dossierref13_Next.j0 k a0 a1 a2 (a0 == 2))) = some (r1, r2) := h
  clear h
  have HC4 := Aside0.mk H
  clear H
  go_enter Try.func9, Try.ntmps9
  go_upto_region 1 with (fail)
  go_cut [8] (fun v8 wc => ∃ (kq : Nat) (x8_3 : Bool), v8 = .bool x8_3 ∧ Aside0 (dossierref13_Next.j0 kq a0 a1 a2 x8_3 = some (r1, r2)) ∧ Aside0 (kq ≤ k) ∧ Drawn0 w wc)
  case first => as_aux_lemma =>
    have H := HC4.out
    clear HC4
    by_cases c5 : a0 = 1
    · rw [if_pos c5] at H
      have c5b0 : (a0 == 1) = true := beq_iff_eq.mpr c5
      have c5b1 : (a0 != 1) = false := bne_eq_false_iff_eq.mpr c5
      clear c5
      (first | rw [c5b0] | (simp only [i64_w, i32_w]; rw [c5b0]) | skip)
      have H' := Aside0.mk H
      clear H
      go_wp2
      go_meet
      case rel => exact ⟨_, (true), (by first | rfl | (simp; done) | (simp [*]; done)), H', ⟨by first | omega | exact Nat.le_refl _⟩, by repeat (first | exact Drawn0.refl _ | apply Drawn0.step)⟩
    · rw [if_neg c5] at H
      have c5b0 : (a0 == 1) = false := beq_eq_false_iff_ne.mpr c5
      have c5b1 : (a0 != 1) = true := bne_iff_ne.mpr c5
      (first | rw [c5b0] | (simp only [i64_w, i32_w]; rw [c5b0]) | skip)
      have H' := Aside0.mk H
      clear H
      go_wp2
      go_meet
      case rel => exact ⟨_, ((a0 == 2)), (by first | rfl | (simp; done) | (simp [*]; done)), H', ⟨by first | omega | exact Nat.le_refl _⟩, by repeat (first | exact Drawn0.refl _ | apply Drawn0.step)⟩
  case rest => as_aux_lemma =>
    clear HC4
    try clear p2
    try clear c5
    try clear c5b0
    try clear c5b1
    obtain ⟨kq, x8_3, rfl, HA, HJ3, ⟨mc3, rfl⟩⟩ := hcut
    cases kq with
    | zero => exact absurd HA.out (by simp [dossierref13_Next.j0])
    | succ kj3 =>
      have H := HA.out
      clear HA
      simp only [dossierref13_Next.j0] at H
      have HC6 := Aside0.mk H
      clear H
      go_upto_region 2 with (fail)
      go_cut [9] (fun v9 wc => ∃ (kq : Nat) (x9_5 : Bool), v9 = .bool x9_5 ∧ Aside0 (dossierref13_Next.j1 kq a1 a2 x8_3 x9_5 = some (r1, r2)) ∧ Aside0 (kq ≤ kj3) ∧ Drawn0 w wc)
      case first => as_aux_lemma =>
        have H := HC6.out
        clear HC6
        by_cases c7 : a0 = 3
        · rw [if_pos c7] at H
          have c7b0 : (a0 == 3) = true := beq_iff_eq.mpr c7
          have c7b1 : (a0 != 3) = false := bne_eq_false_iff_eq.mpr c7
          clear c7
          (first | rw [c7b0] | (simp only [i64_w, i32_w]; rw [c7b0]) | skip)
          have H' := Aside0.mk H
          clear H
          go_wp2
          go_meet
          case rel => exact ⟨_, (true), (by first | rfl | (simp; done) | (simp [*]; done)), H', ⟨by have := HJ3.out; first | omega | exact Nat.le_refl _⟩, by repeat (first | exact Drawn0.refl _ | apply Drawn0.step)⟩
        · rw [if_neg c7] at H
          have c7b0 : (a0 == 3) = false := beq_eq_false_iff_ne.mpr c7
          have c7b1 : (a0 != 3) = true := bne_iff_ne.mpr c7
          (first | rw [c7b0] | (simp only [i64_w, i32_w]; rw [c7b0]) | skip)
          have H' := Aside0.mk H
          clear H
          go_wp2
          go_meet
          case rel => exact ⟨_, ((a0 == 4)), (by first | rfl | (simp; done) | (simp [*]; done)), H', ⟨by have := HJ3.out; first | omega | exact Nat.le_refl _⟩, by repeat (first | exact Drawn0.refl _ | apply Drawn0.step)⟩
      case rest => as_aux_lemma =>
        clear HC6
        try clear p2
        try clear c3
        try clear c5
        try clear c5b0
        try clear c5b1
        try clear c7
        try clear c7b0
        try clear c7b1
        try clear p2
        obtain ⟨kq, x9_5, rfl, HA, HJ5, ⟨mc5, rfl⟩⟩ := hcut
        cases kq with
        | zero => exact absurd HA.out (by simp [dossierref13_Next.j1])
        | succ kj5 =>
          have H := HA.out
          clear HA
          simp only [dossierref13_Next.j1] at H
          have HC8 := Aside0.mk H
          clear H
          go_upto_region 3 with (fail)
          go_cut [22] (fun v22 wc => ∃ (kq : Nat) (x22_7 : Bool), v22 = .bool x22_7 ∧ Aside0 (dossierref13_Next.j2 kq a1 a2 x8_3 x9_5 x22_7 = some (r1, r2)) ∧ Aside0 (kq ≤ kj5) ∧ Drawn0 w wc)
          case first => as_aux_lemma =>
            have H := HC8.out
            clear HC8
            by_cases c9 : x8_3 = true
            · subst c9
              have H1 : (dossierref13_Next.j2 kj5 a1 a2 true x9_5 false) = some (r1, r2) := by rw [if_pos rfl] at H; exact H
              clear H
              have H := H1
              clear H1
              have H' := Aside0.mk H
              clear H
              go_wp2
              go_meet
              case rel => exact ⟨_, (false), (by first | rfl | (simp; done) | (simp [*]; done)), H', ⟨by have := HJ3.out; have := HJ5.out; first | omega | exact Nat.le_refl _⟩, by repeat (first | exact Drawn0.refl _ | apply Drawn0.step)⟩
            · replace c9 := Bool.eq_false_iff.mpr c9
              subst c9
              have H1 : (dossierref13_Next.j2 kj5 a1 a2 false x9_5 (!x9_5)) = some (r1, r2) := by rw [if_neg (show ¬ (false = true) by decide)] at H; exact H
              clear H
              have H := H1
              clear H1
              have H' := Aside0.mk H
              clear H
              go_wp2
              go_meet
              case rel => exact ⟨_, (!x9_5), (by first | rfl | (simp; done) | (simp [*]; done)), H', ⟨by have := HJ3.out; have := HJ5.out; first | omega | exact Nat.le_refl _⟩, by repeat (first | exact Drawn0.refl _ | apply Drawn0.step)⟩
          case rest => as_aux_lemma =>
            clear HC8
            try clear p2
            try clear c3
            try clear c5
            try clear c5b0
            try clear c5b1
            try clear c7
            try clear c7b0
            try clear c7b1
            try clear c9
            try clear p2
            obtain ⟨kq, x22_7, rfl, HA, HJ7, ⟨mc7, rfl⟩⟩ := hcut
            cases kq with
            | zero => exact absurd HA.out (by simp [dossierref13_Next.j2])
            | succ kj7 =>
              have H := HA.out
              clear HA
              simp only [dossierref13_Next.j2] at H
              by_cases c10 : x22_7 = true
              · subst c10
                have H1 : (some (0, false)) = some (r1, r2) := by rw [if_pos rfl] at H; exact H
                clear H
                have H := H1
                clear H1
                simp only [Option.some.injEq, Prod.mk.injEq] at H
                obtain ⟨rfl, rfl⟩ := H
                go_wp2
                go_ret2
                exact ⟨by first | rfl | (simp; done) | (simp [*]; done), by repeat (first | exact Drawn0.refl _ | apply Drawn0.step)⟩
              · replace c10 := Bool.eq_false_iff.mpr c10
                subst c10
                have H1 : (if a2 = 1 then (dossierref13_Next.j3 kj7 a1 a2 x8_3 x9_5 (a1 == 0)) else (dossierref13_Next.j3 kj7 a1 a2 x8_3 x9_5 false)) = some (r1, r2) := by rw [if_neg (show ¬ (false = true) by decide)] at H; exact H
                clear H
                have H := H1
                clear H1
                have HC11 := Aside0.mk H
                clear H
                go_upto_region 5 with (fail)
                go_cut [29] (fun v29 wc => ∃ (kq : Nat) (x29_10 : Bool), v29 = .bool x29_10 ∧ Aside0 (dossierref13_Next.j3 kq a1 a2 x8_3 x9_5 x29_10 = some (r1, r2)) ∧ Aside0 (kq ≤ kj7) ∧ Drawn0 w wc)
                case first => as_aux_lemma =>
                  have H := HC11.out
                  clear HC11
                  by_cases c12 : a2 = 1
                  · rw [if_pos c12] at H
                    have c12b0 : (a2 == 1) = true := beq_iff_eq.mpr c12
                    have c12b1 : (a2 != 1) = false := bne_eq_false_iff_eq.mpr c12
                    clear c12
                    (first | rw [c12b0] | (simp only [i64_w, i32_w]; rw [c12b0]) | skip)
                    have H' := Aside0.mk H
                    clear H
                    go_wp2
                    go_meet
                    case rel => exact ⟨_, ((a1 == 0)), (by first | rfl | (simp; done) | (simp [*]; done)), H', ⟨by have := HJ3.out; have := HJ5.out; have := HJ7.out; first | omega | exact Nat.le_refl _⟩, by repeat (first | exact Drawn0.refl _ | apply Drawn0.step)⟩
                  · rw [if_neg c12] at H
                    have c12b0 : (a2 == 1) = false := beq_eq_false_iff_ne.mpr c12
                    have c12b1 : (a2 != 1) = true := bne_iff_ne.mpr c12
                    (first | rw [c12b0] | (simp only [i64_w, i32_w]; rw [c12b0]) | skip)
                    have H' := Aside0.mk H
                    clear H
                    go_wp2
                    go_meet
                    case rel => exact ⟨_, (false), (by first | rfl | (simp; done) | (simp [*]; done)), H', ⟨by have := HJ3.out; have := HJ5.out; have := HJ7.out; first | omega | exact Nat.le_refl _⟩, by repeat (first | exact Drawn0.refl _ | apply Drawn0.step)⟩
                case rest => as_aux_lemma =>
                  clear HC11
                  try clear c1
                  try clear p2
                  try clear c3
                  try clear c5
                  try clear c5b0
                  try clear c5b1
                  try clear c7
                  try clear c7b0
                  try clear c7b1
                  try clear c9
                  try clear c10
                  try clear c12
                  try clear c12b0
                  try clear c12b1
                  try clear p2
                  obtain ⟨kq, x29_10, rfl, HA, HJ10, ⟨mc10, rfl⟩⟩ := hcut
                  cases kq with
                  | zero => exact absurd HA.out (by simp [dossierref13_Next.j3])
                  | succ kj10 =>
                    have H := HA.out
                    clear HA
                    simp only [dossierref13_Next.j3] at H
                    by_cases c13 : x29_10 = true
                    · subst c13
                      have H1 : (some (1, true)) = some (r1, r2) := by rw [if_pos rfl] at H; exact H
                      clear H
                      have H := H1
                      clear H1
                      simp only [Option.some.injEq, Prod.mk.injEq] at H
                      obtain ⟨rfl, rfl⟩ := H
                      go_wp2
                      go_ret2
                      exact ⟨by first | rfl | (simp; done) | (simp [*]; done), by repeat (first | exact Drawn0.refl _ | apply Drawn0.step)⟩
                    · replace c13 := Bool.eq_false_iff.mpr c13
                      subst c13
                      have H1 : (if a2 = 5 then (if a1 = 1 then (dossierref13_Next.j4 kj10 a1 a2 x8_3 x9_5 true) else (if a1 = 4 then (dossierref13_Next.j4 kj10 a1 a2 x8_3 x9_5 true) else (if x8_3 = true then (if a1 = 2 then (dossierref13_Next.j4 kj10 a1 a2 x8_3 x9_5 true) else (dossierref13_Next.j4 kj10 a1 a2 x8_3 x9_5 (a1 == 3))) else (dossierref13_Next.j4 kj10 a1 a2 x8_3 x9_5 false)))) else (dossierref13_Next.j4 kj10 a1 a2 x8_3 x9_5 false)) = some (r1, r2) := by rw [if_neg (show ¬ (false = true) by decide)] at H; exact H
                      clear H
                      have H := H1
                      clear H1
                      have HC14 := Aside0.mk H
                      clear H
                      go_upto_region 7 with (fail)
                      go_cut [36] (fun v36 wc => ∃ (kq : Nat) (x36_13 : Bool), v36 = .bool x36_13 ∧ Aside0 (dossierref13_Next.j4 kq a1 a2 x8_3 x9_5 x36_13 = some (r1, r2)) ∧ Aside0 (kq ≤ kj10) ∧ Drawn0 w wc)
                      case first => as_aux_lemma =>
                        have H := HC14.out
                        clear HC14
                        by_cases c15 : a2 = 5
                        · rw [if_pos c15] at H
                          have c15b0 : (a2 == 5) = true := beq_iff_eq.mpr c15
                          have c15b1 : (a2 != 5) = false := bne_eq_false_iff_eq.mpr c15
                          clear c15
                          (first | rw [c15b0] | (simp only [i64_w, i32_w]; rw [c15b0]) | skip)
                          by_cases c16 : a1 = 1
                          · rw [if_pos c16] at H
                            have c16b0 : (a1 == 1) = true := beq_iff_eq.mpr c16
                            have c16b1 : (a1 != 1) = false := bne_eq_false_iff_eq.mpr c16
                            clear c16
                            have H' := Aside0.mk H
                            clear H
                            go_wp2
                            go_meet
                            case rel => exact ⟨_, (true), (by first | rfl | (simp; done) | (simp [*]; done)), H', ⟨by have := HJ3.out; have := HJ5.out; have := HJ7.out; have := HJ10.out; first | omega | exact Nat.le_refl _⟩, by repeat (first | exact Drawn0.refl _ | apply Drawn0.step)⟩
                          · rw [if_neg c16] at H
                            have c16b0 : (a1 == 1) = false := beq_eq_false_iff_ne.mpr c16
                            have c16b1 : (a1 != 1) = true := bne_iff_ne.mpr c16
                            by_cases c17 : a1 = 4
                            · rw [if_pos c17] at H
                              have c17b0 : (a1 == 4) = true := beq_iff_eq.mpr c17
                              have c17b1 : (a1 != 4) = false := bne_eq_false_iff_eq.mpr c17
                              clear c17
                              have H' := Aside0.mk H
                              clear H
                              go_wp2
                              go_meet
                              case rel => exact ⟨_, (true), (by first | rfl | (simp; done) | (simp [*]; done)), H', ⟨by have := HJ3.out; have := HJ5.out; have := HJ7.out; have := HJ10.out; first | omega | exact Nat.le_refl _⟩, by repeat (first | exact Drawn0.refl _ | apply Drawn0.step)⟩
                            · rw [if_neg c17] at H
                              have c17b0 : (a1 == 4) = false := beq_eq_false_iff_ne.mpr c17
                              have c17b1 : (a1 != 4) = true := bne_iff_ne.mpr c17
                              by_cases c18 : x8_3 = true
                              · subst c18
                                have H1 : (if a1 = 2 then (dossierref13_Next.j4 kj10 a1 a2 true x9_5 true) else (dossierref13_Next.j4 kj10 a1 a2 true x9_5 (a1 == 3))) = some (r1, r2) := by rw [if_pos rfl] at H; exact H
                                clear H
                                have H := H1
                                clear H1
                                by_cases c19 : a1 = 2
                                · rw [if_pos c19] at H
                                  have c19b0 : (a1 == 2) = true := beq_iff_eq.mpr c19
                                  have c19b1 : (a1 != 2) = false := bne_eq_false_iff_eq.mpr c19
                                  clear c19
                                  have H' := Aside0.mk H
                                  clear H
                                  go_wp2
                                  go_meet
                                  case rel => exact ⟨_, (true), (by first | rfl | (simp; done) | (simp [*]; done)), H', ⟨by have := HJ3.out; have := HJ5.out; have := HJ7.out; have := HJ10.out; first | omega | exact Nat.le_refl _⟩, by repeat (first | exact Drawn0.refl _ | apply Drawn0.step)⟩
                                · rw [if_neg c19] at H
                                  have c19b0 : (a1 == 2) = false := beq_eq_false_iff_ne.mpr c19
                                  have c19b1 : (a1 != 2) = true := bne_iff_ne.mpr c19
                                  have H' := Aside0.mk H
                                  clear H
                                  go_wp2
                                  go_meet
                                  case rel => exact ⟨_, ((a1 == 3)), (by first | rfl | (simp; done) | (simp [*]; done)), H', ⟨by have := HJ3.out; have := HJ5.out; have := HJ7.out; have := HJ10.out; first | omega | exact Nat.le_refl _⟩, by repeat (first | exact Drawn0.refl _ | apply Drawn0.step)⟩
                              · replace c18 := Bool.eq_false_iff.mpr c18
                                subst c18
                                have H1 : (dossierref13_Next.j4 kj10 a1 a2 false x9_5 false) = some (r1, r2) := by rw [if_neg (show ¬ (false = true) by decide)] at H; exact H
                                clear H
                                have H := H1
                                clear H1
                                have H' := Aside0.mk H
                                clear H
                                go_wp2
                                go_meet
                                case rel => exact ⟨_, (false), (by first | rfl | (simp; done) | (simp [*]; done)), H', ⟨by have := HJ3.out; have := HJ5.out; have := HJ7.out; have := HJ10.out; first | omega | exact Nat.le_refl _⟩, by repeat (first | exact Drawn0.refl _ | apply Drawn0.step)⟩
                        · rw [if_neg c15] at H
                          have c15b0 : (a2 == 5) = false := beq_eq_false_iff_ne.mpr c15
                          have c15b1 : (a2 != 5) = true := bne_iff_ne.mpr c15
                          (first | rw [c15b0] | (simp only [i64_w, i32_w]; rw [c15b0]) | skip)
                          have H' := Aside0.mk H
                          clear H
                          go_wp2
                          go_meet
                          case rel => exact ⟨_, (false), (by first | rfl | (simp; done) | (simp [*]; done)), H', ⟨by have := HJ3.out; have := HJ5.out; have := HJ7.out; have := HJ10.out; first | omega | exact Nat.le_refl _⟩, by repeat (first | exact Drawn0.refl _ | apply Drawn0.step)⟩
                      case rest => as_aux_lemma =>
                        clear HC14
                        try clear c1
                        try clear p2
                        try clear c3
                        try clear c5
                        try clear c5b0
                        try clear c5b1
                        try clear c7
                        try clear c7b0
                        try clear c7b1
                        try clear c9
                        try clear c10
                        try clear c12
                        try clear c12b0
                        try clear c12b1
                        try clear c13
                        try clear c15
                        try clear c15b0
                        try clear c15b1
                        try clear c16
                        try clear c16b0
                        try clear c16b1
                        try clear c17
                        try clear c17b0
                        try clear c17b1
                        try clear c18
                        try clear c19
                        try clear c19b0
                        try clear c19b1
                        try clear p2
                        obtain ⟨kq, x36_13, rfl, HA, HJ13, ⟨mc13, rfl⟩⟩ := hcut
                        cases kq with
                        | zero => exact absurd HA.out (by simp [dossierref13_Next.j4])
                        | succ kj13 =>
                          have H := HA.out
                          clear HA
                          simp only [dossierref13_Next.j4] at H
                          by_cases c20 : x36_13 = true
                          · subst c20
                            have H1 : (some (6, true)) = some (r1, r2) := by rw [if_pos rfl] at H; exact H
                            clear H
                            have H := H1
                            clear H1
                            simp only [Option.some.injEq, Prod.mk.injEq] at H
                            obtain ⟨rfl, rfl⟩ := H
                            go_wp2
                            go_ret2
                            exact ⟨by first | rfl | (simp; done) | (simp [*]; done), by repeat (first | exact Drawn0.refl _ | apply Drawn0.step)⟩
                          · replace c20 := Bool.eq_false_iff.mpr c20
                            subst c20
                            have H1 : (if x8_3 = true then (if a2 = 2 then (dossierref13_Next.j5 kj13 a1 a2 x8_3 x9_5 (a1 == 1)) else (dossierref13_Next.j5 kj13 a1 a2 x8_3 x9_5 false)) else (dossierref13_Next.j5 kj13 a1 a2 x8_3 x9_5 false)) = some (r1, r2) := by rw [if_neg (show ¬ (false = true) by decide)] at H; exact H
                            clear H
                            have H := H1
                            clear H1
                            have HC21 := Aside0.mk H
                            clear H
                            go_upto_region 9 with (fail)
                            go_cut [58] (fun v58 wc => ∃ (kq : Nat) (x58_20 : Bool), v58 = .bool x58_20 ∧ Aside0 (dossierref13_Next.j5 kq a1 a2 x8_3 x9_5 x58_20 = some (r1, r2)) ∧ Aside0 (kq ≤ kj13) ∧ Drawn0 w wc)
                            case first => as_aux_lemma =>
                              have H := HC21.out
                              clear HC21
                              by_cases c22 : x8_3 = true
                              · subst c22
                                have H1 : (if a2 = 2 then (dossierref13_Next.j5 kj13 a1 a2 true x9_5 (a1 == 1)) else (dossierref13_Next.j5 kj13 a1 a2 true x9_5 false)) = some (r1, r2) := by rw [if_pos rfl] at H; exact H
                                clear H
                                have H := H1
                                clear H1
                                by_cases c23 : a2 = 2
                                · rw [if_pos c23] at H
                                  have c23b0 : (a2 == 2) = true := beq_iff_eq.mpr c23
                                  have c23b1 : (a2 != 2) = false := bne_eq_false_iff_eq.mpr c23
                                  clear c23
                                  (first | rw [c23b0] | (simp only [i64_w, i32_w]; rw [c23b0]) | skip)
                                  have H' := Aside0.mk H
                                  clear H
                                  go_wp2
                                  go_meet
                                  case rel => exact ⟨_, ((a1 == 1)), (by first | rfl | (simp; done) | (simp [*]; done)), H', ⟨by have := HJ3.out; have := HJ5.out; have := HJ7.out; have := HJ10.out; have := HJ13.out; first | omega | exact Nat.le_refl _⟩, by repeat (first | exact Drawn0.refl _ | apply Drawn0.step)⟩
                                · rw [if_neg c23] at H
                                  have c23b0 : (a2 == 2) = false := beq_eq_false_iff_ne.mpr c23
                                  have c23b1 : (a2 != 2) = true := bne_iff_ne.mpr c23
                                  (first | rw [c23b0] | (simp only [i64_w, i32_w]; rw [c23b0]) | skip)
                                  have H' := Aside0.mk H
                                  clear H
                                  go_wp2
                                  go_meet
                                  case rel => exact ⟨_, (false), (by first | rfl | (simp; done) | (simp [*]; done)), H', ⟨by have := HJ3.out; have := HJ5.out; have := HJ7.out; have := HJ10.out; have := HJ13.out; first | omega | exact Nat.le_refl _⟩, by repeat (first | exact Drawn0.refl _ | apply Drawn0.step)⟩
                              · replace c22 := Bool.eq_false_iff.mpr c22
                                subst c22
                                have H1 : (dossierref13_Next.j5 kj13 a1 a2 false x9_5 false) = some (r1, r2) := by rw [if_neg (show ¬ (false = true) by decide)] at H; exact H
                                clear H
                                have H := H1
                                clear H1
                                have H' := Aside0.mk H
                                clear H
                                go_wp2
                                go_meet
                                case rel => exact ⟨_, (false), (by first | rfl | (simp; done) | (simp [*]; done)), H', ⟨by have := HJ3.out; have := HJ5.out; have := HJ7.out; have := HJ10.out; have := HJ13.out; first | omega | exact Nat.le_refl _⟩, by repeat (first | exact Drawn0.refl _ | apply Drawn0.step)⟩
                            case rest => as_aux_lemma =>
                              clear HC21
                              try clear c1
                              try clear c2
                              try clear p2
                              try clear c3
                              try clear c5
                              try clear c5b0
                              try clear c5b1
                              try clear c7
                              try clear c7b0
                              try clear c7b1
                              try clear c9
                              try clear c10
                              try clear c12
                              try clear c12b0
                              try clear c12b1
                              try clear c13
                              try clear c15
                              try clear c15b0
                              try clear c15b1
                              try clear c16
                              try clear c16b0
                              try clear c16b1
                              try clear c17
                              try clear c17b0
                              try clear c17b1
                              try clear c18
                              try clear c19
                              try clear c19b0
                              try clear c19b1
                              try clear c20
                              try clear c22
                              try clear c23
                              try clear c23b0
                              try clear c23b1
                              try clear p2
                              obtain ⟨kq, x58_20, rfl, HA, HJ20, ⟨mc20, rfl⟩⟩ := hcut
                              cases kq with
                              | zero => exact absurd HA.out (by simp [dossierref13_Next.j5])
                              | succ kj20 =>
                                have H := HA.out
                                clear HA
                                simp only [dossierref13_Next.j5] at H
                                by_cases c24 : x58_20 = true
                                · subst c24
                                  have H1 : (some (2, true)) = some (r1, r2) := by rw [if_pos rfl] at H; exact H
                                  clear H
                                  have H := H1
                                  clear H1
                                  simp only [Option.some.injEq, Prod.mk.injEq] at H
                                  obtain ⟨rfl, rfl⟩ := H
                                  go_wp2
                                  go_ret2
                                  exact ⟨by first | rfl | (simp; done) | (simp [*]; done), by repeat (first | exact Drawn0.refl _ | apply Drawn0.step)⟩
                                · replace c24 := Bool.eq_false_iff.mpr c24
                                  subst c24
                                  have H1 : (if x8_3 = true then (if a2 = 3 then (if a1 = 1 then (dossierref13_Next.j6 kj20 a1 a2 x8_3 x9_5 true) else (dossierref13_Next.j6 kj20 a1 a2 x8_3 x9_5 (a1 == 2))) else (dossierref13_Next.j6 kj20 a1 a2 x8_3 x9_5 false)) else (dossierref13_Next.j6 kj20 a1 a2 x8_3 x9_5 false)) = some (r1, r2) := by rw [if_neg (show ¬ (false = true) by decide)] at H; exact H
                                  clear H
                                  have H := H1
                                  clear H1
                                  have HC25 := Aside0.mk H
                                  clear H
                                  go_upto_region 11 with (fail)
                                  go_cut [68] (fun v68 wc => ∃ (kq : Nat) (x68_24 : Bool), v68 = .bool x68_24 ∧ Aside0 (dossierref13_Next.j6 kq a1 a2 x8_3 x9_5 x68_24 = some (r1, r2)) ∧ Aside0 (kq ≤ kj20) ∧ Drawn0 w wc)
                                  case first => as_aux_lemma =>
                                    have H := HC25.out
                                    clear HC25
                                    by_cases c26 : x8_3 = true
                                    · subst c26
                                      have H1 : (if a2 = 3 then (if a1 = 1 then (dossierref13_Next.j6 kj20 a1 a2 true x9_5 true) else (dossierref13_Next.j6 kj20 a1 a2 true x9_5 (a1 == 2))) else (dossierref13_Next.j6 kj20 a1 a2 true x9_5 false)) = some (r1, r2) := by rw [if_pos rfl] at H; exact H
                                      clear H
                                      have H := H1
                                      clear H1
                                      by_cases c27 : a2 = 3
                                      · rw [if_pos c27] at H
                                        have c27b0 : (a2 == 3) = true := beq_iff_eq.mpr c27
                                        have c27b1 : (a2 != 3) = false := bne_eq_false_iff_eq.mpr c27
                                        clear c27
                                        (first | rw [c27b0] | (simp only [i64_w, i32_w]; rw [c27b0]) | skip)
                                        by_cases c28 : a1 = 1
                                        · rw [if_pos c28] at H
                                          have c28b0 : (a1 == 1) = true := beq_iff_eq.mpr c28
                                          have c28b1 : (a1 != 1) = false := bne_eq_false_iff_eq.mpr c28
                                          clear c28
                                          have H' := Aside0.mk H
                                          clear H
                                          go_wp2
                                          go_meet
                                          case rel => exact ⟨_, (true), (by first | rfl | (simp; done) | (simp [*]; done)), H', ⟨by have := HJ3.out; have := HJ5.out; have := HJ7.out; have := HJ10.out; have := HJ13.out; have := HJ20.out; first | omega | exact Nat.le_refl _⟩, by repeat (first | exact Drawn0.refl _ | apply Drawn0.step)⟩
                                        · rw [if_neg c28] at H
                                          have c28b0 : (a1 == 1) = false := beq_eq_false_iff_ne.mpr c28
                                          have c28b1 : (a1 != 1) = true := bne_iff_ne.mpr c28
                                          have H' := Aside0.mk H
                                          clear H
                                          go_wp2
                                          go_meet
                                          case rel => exact ⟨_, ((a1 == 2)), (by first | rfl | (simp; done) | (simp [*]; done)), H', ⟨by have := HJ3.out; have := HJ5.out; have := HJ7.out; have := HJ10.out; have := HJ13.out; have := HJ20.out; first | omega | exact Nat.le_refl _⟩, by repeat (first | exact Drawn0.refl _ | apply Drawn0.step)⟩
                                      · rw [if_neg c27] at H
                                        have c27b0 : (a2 == 3) = false := beq_eq_false_iff_ne.mpr c27
                                        have c27b1 : (a2 != 3) = true := bne_iff_ne.mpr c27
                                        (first | rw [c27b0] | (simp only [i64_w, i32_w]; rw [c27b0]) | skip)
                                        have H' := Aside0.mk H
                                        clear H
                                        go_wp2
                                        go_meet
                                        case rel => exact ⟨_, (false), (by first | rfl | (simp; done) | (simp [*]; done)), H', ⟨by have := HJ3.out; have := HJ5.out; have := HJ7.out; have := HJ10.out; have := HJ13.out; have := HJ20.out; first | omega | exact Nat.le_refl _⟩, by repeat (first | exact Drawn0.refl _ | apply Drawn0.step)⟩
                                    · replace c26 := Bool.eq_false_iff.mpr c26
                                      subst c26
                                      have H1 : (dossierref13_Next.j6 kj20 a1 a2 false x9_5 false) = some (r1, r2) := by rw [if_neg (show ¬ (false = true) by decide)] at H; exact H
                                      clear H
                                      have H := H1
                                      clear H1
                                      have H' := Aside0.mk H
                                      clear H
                                      go_wp2
                                      go_meet
                                      case rel => exact ⟨_, (false), (by first | rfl | (simp; done) | (simp [*]; done)), H', ⟨by have := HJ3.out; have := HJ5.out; have := HJ7.out; have := HJ10.out; have := HJ13.out; have := HJ20.out; first | omega | exact Nat.le_refl _⟩, by repeat (first | exact Drawn0.refl _ | apply Drawn0.step)⟩
                                  case rest => as_aux_lemma =>
                                    clear HC25
                                    try clear c1
                                    try clear c2
                                    try clear p2
                                    try clear c3
                                    try clear c5
                                    try clear c5b0
                                    try clear c5b1
                                    try clear c7
                                    try clear c7b0
                                    try clear c7b1
                                    try clear c9
                                    try clear c10
                                    try clear c12
                                    try clear c12b0
                                    try clear c12b1
                                    try clear c13
                                    try clear c15
                                    try clear c15b0
                                    try clear c15b1
                                    try clear c16
                                    try clear c16b0
                                    try clear c16b1
                                    try clear c17
                                    try clear c17b0
                                    try clear c17b1
                                    try clear c18
                                    try clear c19
                                    try clear c19b0
                                    try clear c19b1
                                    try clear c20
                                    try clear c22
                                    try clear c23
                                    try clear c23b0
                                    try clear c23b1
                                    try clear c24
                                    try clear c26
                                    try clear c27
                                    try clear c27b0
                                    try clear c27b1
                                    try clear c28
                                    try clear c28b0
                                    try clear c28b1
                                    try clear p2
                                    obtain ⟨kq, x68_24, rfl, HA, HJ24, ⟨mc24, rfl⟩⟩ := hcut
                                    cases kq with
                                    | zero => exact absurd HA.out (by simp [dossierref13_Next.j6])
                                    | succ kj24 =>
                                      have H := HA.out
                                      clear HA
                                      simp only [dossierref13_Next.j6] at H
                                      by_cases c29 : x68_24 = true
                                      · subst c29
                                        have H1 : (some (3, true)) = some (r1, r2) := by rw [if_pos rfl] at H; exact H
                                        clear H
                                        have H := H1
                                        clear H1
                                        simp only [Option.some.injEq, Prod.mk.injEq] at H
                                        obtain ⟨rfl, rfl⟩ := H
                                        go_wp2
                                        go_ret2
                                        exact ⟨by first | rfl | (simp; done) | (simp [*]; done), by repeat (first | exact Drawn0.refl _ | apply Drawn0.step)⟩
                                      · replace c29 := Bool.eq_false_iff.mpr c29
                                        subst c29
                                        have H1 : (if x8_3 = true then (if a2 = 4 then (dossierref13_Next.j7 kj24 a1 a2 x8_3 x9_5 (a1 == 3)) else (dossierref13_Next.j7 kj24 a1 a2 x8_3 x9_5 false)) else (dossierref13_Next.j7 kj24 a1 a2 x8_3 x9_5 false)) = some (r1, r2) := by rw [if_neg (show ¬ (false = true) by decide)] at H; exact H
                                        clear H
                                        have H := H1
                                        clear H1
                                        have HC30 := Aside0.mk H
                                        clear H
                                        go_upto_region 13 with (fail)
                                        go_cut [82] (fun v82 wc => ∃ (kq : Nat) (x82_29 : Bool), v82 = .bool x82_29 ∧ Aside0 (dossierref13_Next.j7 kq a1 a2 x8_3 x9_5 x82_29 = some (r1, r2)) ∧ Aside0 (kq ≤ kj24) ∧ Drawn0 w wc)
                                        case first => as_aux_lemma =>
                                          have H := HC30.out
                                          clear HC30
                                          by_cases c31 : x8_3 = true
                                          · subst c31
                                            have H1 : (if a2 = 4 then (dossierref13_Next.j7 kj24 a1 a2 true x9_5 (a1 == 3)) else (dossierref13_Next.j7 kj24 a1 a2 true x9_5 false)) = some (r1, r2) := by rw [if_pos rfl] at H; exact H
                                            clear H
                                            have H := H1
                                            clear H1
                                            by_cases c32 : a2 = 4
                                            · rw [if_pos c32] at H
                                              have c32b0 : (a2 == 4) = true := beq_iff_eq.mpr c32
                                              have c32b1 : (a2 != 4) = false := bne_eq_false_iff_eq.mpr c32
                                              clear c32
                                              (first | rw [c32b0] | (simp only [i64_w, i32_w]; rw [c32b0]) | skip)
                                              have H' := Aside0.mk H
                                              clear H
                                              go_wp2
                                              go_meet
                                              case rel => exact ⟨_, ((a1 == 3)), (by first | rfl | (simp; done) | (simp [*]; done)), H', ⟨by have := HJ3.out; have := HJ5.out; have := HJ7.out; have := HJ10.out; have := HJ13.out; have := HJ20.out; have := HJ24.out; first | omega | exact Nat.le_refl _⟩, by repeat (first | exact Drawn0.refl _ | apply Drawn0.step)⟩
                                            · rw [if_neg c32] at H
                                              have c32b0 : (a2 == 4) = false := beq_eq_false_iff_ne.mpr c32
                                              have c32b1 : (a2 != 4) = true := bne_iff_ne.mpr c32
                                              (first | rw [c32b0] | (simp only [i64_w, i32_w]; rw [c32b0]) | skip)
                                              have H' := Aside0.mk H
                                              clear H
                                              go_wp2
                                              go_meet
                                              case rel => exact ⟨_, (false), (by first | rfl | (simp; done) | (simp [*]; done)), H', ⟨by have := HJ3.out; have := HJ5.out; have := HJ7.out; have := HJ10.out; have := HJ13.out; have := HJ20.out; have := HJ24.out; first | omega | exact Nat.le_refl _⟩, by repeat (first | exact Drawn0.refl _ | apply Drawn0.step)⟩
                                          · replace c31 := Bool.eq_false_iff.mpr c31
                                            subst c31
                                            have H1 : (dossierref13_Next.j7 kj24 a1 a2 false x9_5 false) = some (r1, r2) := by rw [if_neg (show ¬ (false = true) by decide)] at H; exact H
                                            clear H
                                            have H := H1
                                            clear H1
                                            have H' := Aside0.mk H
                                            clear H
                                            go_wp2
                                            go_meet
                                            case rel => exact ⟨_, (false), (by first | rfl | (simp; done) | (simp [*]; done)), H', ⟨by have := HJ3.out; have := HJ5.out; have := HJ7.out; have := HJ10.out; have := HJ13.out; have := HJ20.out; have := HJ24.out; first | omega | exact Nat.le_refl _⟩, by repeat (first | exact Drawn0.refl _ | apply Drawn0.step)⟩
                                        case rest => as_aux_lemma =>
                                          clear HC30
                                          try clear c1
                                          try clear c2
                                          try clear p2
                                          try clear c3
                                          try clear c5
                                          try clear c5b0
                                          try clear c5b1
                                          try clear c7
                                          try clear c7b0
                                          try clear c7b1
                                          try clear c9
                                          try clear c10
                                          try clear c12
                                          try clear c12b0
                                          try clear c12b1
                                          try clear c13
                                          try clear c15
                                          try clear c15b0
                                          try clear c15b1
                                          try clear c16
                                          try clear c16b0
                                          try clear c16b1
                                          try clear c17
                                          try clear c17b0
                                          try clear c17b1
                                          try clear c18
                                          try clear c19
                                          try clear c19b0
                                          try clear c19b1
                                          try clear c20
                                          try clear c22
                                          try clear c23
                                          try clear c23b0
                                          try clear c23b1
                                          try clear c24
                                          try clear c26
                                          try clear c27
                                          try clear c27b0
                                          try clear c27b1
                                          try clear c28
                                          try clear c28b0
                                          try clear c28b1
                                          try clear c29
                                          try clear c31
                                          try clear c32
                                          try clear c32b0
                                          try clear c32b1
                                          try clear p2
                                          obtain ⟨kq, x82_29, rfl, HA, HJ29, ⟨mc29, rfl⟩⟩ := hcut
                                          cases kq with
                                          | zero => exact absurd HA.out (by simp [dossierref13_Next.j7])
                                          | succ kj29 =>
                                            have H := HA.out
                                            clear HA
                                            simp only [dossierref13_Next.j7] at H
                                            by_cases c33 : x82_29 = true
                                            · subst c33
                                              have H1 : (some (5, true)) = some (r1, r2) := by rw [if_pos rfl] at H; exact H
                                              clear H
                                              have H := H1
                                              clear H1
                                              simp only [Option.some.injEq, Prod.mk.injEq] at H
                                              obtain ⟨rfl, rfl⟩ := H
                                              go_wp2
                                              go_ret2
                                              exact ⟨by first | rfl | (simp; done) | (simp [*]; done), by repeat (first | exact Drawn0.refl _ | apply Drawn0.step)⟩
                                            · replace c33 := Bool.eq_false_iff.mpr c33
                                              subst c33
                                              have H1 : (if x8_3 = true then (if a2 = 6 then (dossierref13_Next.j8 kj29 a1 a2 x8_3 x9_5 (a1 == 3)) else (dossierref13_Next.j8 kj29 a1 a2 x8_3 x9_5 false)) else (dossierref13_Next.j8 kj29 a1 a2 x8_3 x9_5 false)) = some (r1, r2) := by rw [if_neg (show ¬ (false = true) by decide)] at H; exact H
                                              clear H
                                              have H := H1
                                              clear H1
                                              have HC34 := Aside0.mk H
                                              clear H
                                              go_upto_region 15 with (fail)
                                              go_cut [92] (fun v92 wc => ∃ (kq : Nat) (x92_33 : Bool), v92 = .bool x92_33 ∧ Aside0 (dossierref13_Next.j8 kq a1 a2 x8_3 x9_5 x92_33 = some (r1, r2)) ∧ Aside0 (kq ≤ kj29) ∧ Drawn0 w wc)
                                              case first => as_aux_lemma =>
                                                have H := HC34.out
                                                clear HC34
                                                by_cases c35 : x8_3 = true
                                                · subst c35
                                                  have H1 : (if a2 = 6 then (dossierref13_Next.j8 kj29 a1 a2 true x9_5 (a1 == 3)) else (dossierref13_Next.j8 kj29 a1 a2 true x9_5 false)) = some (r1, r2) := by rw [if_pos rfl] at H; exact H
                                                  clear H
                                                  have H := H1
                                                  clear H1
                                                  by_cases c36 : a2 = 6
                                                  · rw [if_pos c36] at H
                                                    have c36b0 : (a2 == 6) = true := beq_iff_eq.mpr c36
                                                    have c36b1 : (a2 != 6) = false := bne_eq_false_iff_eq.mpr c36
                                                    clear c36
                                                    (first | rw [c36b0] | (simp only [i64_w, i32_w]; rw [c36b0]) | skip)
                                                    have H' := Aside0.mk H
                                                    clear H
                                                    go_wp2
                                                    go_meet
                                                    case rel => exact ⟨_, ((a1 == 3)), (by first | rfl | (simp; done) | (simp [*]; done)), H', ⟨by have := HJ3.out; have := HJ5.out; have := HJ7.out; have := HJ10.out; have := HJ13.out; have := HJ20.out; have := HJ24.out; have := HJ29.out; first | omega | exact Nat.le_refl _⟩, by repeat (first | exact Drawn0.refl _ | apply Drawn0.step)⟩
                                                  · rw [if_neg c36] at H
                                                    have c36b0 : (a2 == 6) = false := beq_eq_false_iff_ne.mpr c36
                                                    have c36b1 : (a2 != 6) = true := bne_iff_ne.mpr c36
                                                    (first | rw [c36b0] | (simp only [i64_w, i32_w]; rw [c36b0]) | skip)
                                                    have H' := Aside0.mk H
                                                    clear H
                                                    go_wp2
                                                    go_meet
                                                    case rel => exact ⟨_, (false), (by first | rfl | (simp; done) | (simp [*]; done)), H', ⟨by have := HJ3.out; have := HJ5.out; have := HJ7.out; have := HJ10.out; have := HJ13.out; have := HJ20.out; have := HJ24.out; have := HJ29.out; first | omega | exact Nat.le_refl _⟩, by repeat (first | exact Drawn0.refl _ | apply Drawn0.step)⟩
                                                · replace c35 := Bool.eq_false_iff.mpr c35
                                                  subst c35
                                                  have H1 : (dossierref13_Next.j8 kj29 a1 a2 false x9_5 false) = some (r1, r2) := by rw [if_neg (show ¬ (false = true) by decide)] at H; exact H
                                                  clear H
                                                  have H := H1
                                                  clear H1
                                                  have H' := Aside0.mk H
                                                  clear H
                                                  go_wp2
                                                  go_meet
                                                  case rel => exact ⟨_, (false), (by first | rfl | (simp; done) | (simp [*]; done)), H', ⟨by have := HJ3.out; have := HJ5.out; have := HJ7.out; have := HJ10.out; have := HJ13.out; have := HJ20.out; have := HJ24.out; have := HJ29.out; first | omega | exact Nat.le_refl _⟩, by repeat (first | exact Drawn0.refl _ | apply Drawn0.step)⟩
                                              case rest => as_aux_lemma =>
                                                clear HC34
                                                try clear c1
                                                try clear c2
                                                try clear p2
                                                try clear c3
                                                try clear c5
                                                try clear c5b0
                                                try clear c5b1
                                                try clear c7
                                                try clear c7b0
                                                try clear c7b1
                                                try clear c9
                                                try clear c10
                                                try clear c12
                                                try clear c12b0
                                                try clear c12b1
                                                try clear c13
                                                try clear c15
                                                try clear c15b0
                                                try clear c15b1
                                                try clear c16
                                                try clear c16b0
                                                try clear c16b1
                                                try clear c17
                                                try clear c17b0
                                                try clear c17b1
                                                try clear c18
                                                try clear c19
                                                try clear c19b0
                                                try clear c19b1
                                                try clear c20
                                                try clear c22
                                                try clear c23
                                                try clear c23b0
                                                try clear c23b1
                                                try clear c24
                                                try clear c26
                                                try clear c27
                                                try clear c27b0
                                                try clear c27b1
                                                try clear c28
                                                try clear c28b0
                                                try clear c28b1
                                                try clear c29
                                                try clear c31
                                                try clear c32
                                                try clear c32b0
                                                try clear c32b1
                                                try clear c33
                                                try clear c35
                                                try clear c36
                                                try clear c36b0
                                                try clear c36b1
                                                try clear p2
                                                obtain ⟨kq, x92_33, rfl, HA, HJ33, ⟨mc33, rfl⟩⟩ := hcut
                                                cases kq with
                                                | zero => exact absurd HA.out (by simp [dossierref13_Next.j8])
                                                | succ kj33 =>
                                                  have H := HA.out
                                                  clear HA
                                                  simp only [dossierref13_Next.j8] at H
                                                  by_cases c37 : x92_33 = true
                                                  · subst c37
                                                    have H1 : (some (7, true)) = some (r1, r2) := by rw [if_pos rfl] at H; exact H
                                                    clear H
                                                    have H := H1
                                                    clear H1
                                                    simp only [Option.some.injEq, Prod.mk.injEq] at H
                                                    obtain ⟨rfl, rfl⟩ := H
                                                    go_wp2
                                                    go_ret2
                                                    exact ⟨by first | rfl | (simp; done) | (simp [*]; done), by repeat (first | exact Drawn0.refl _ | apply Drawn0.step)⟩
                                                  · replace c37 := Bool.eq_false_iff.mpr c37
                                                    subst c37
                                                    have H1 : (if x8_3 = true then (if a2 = 8 then (dossierref13_Next.j9 kj33 a1 a2 x8_3 x9_5 (a1 == 3)) else (dossierref13_Next.j9 kj33 a1 a2 x8_3 x9_5 false)) else (dossierref13_Next.j9 kj33 a1 a2 x8_3 x9_5 false)) = some (r1, r2) := by rw [if_neg (show ¬ (false = true) by decide)] at H; exact H
                                                    clear H
                                                    have H := H1
                                                    clear H1
                                                    have HC38 := Aside0.mk H
                                                    clear H
                                                    go_upto_region 17 with (fail)
                                                    go_cut [102] (fun v102 wc => ∃ (kq : Nat) (x102_37 : Bool), v102 = .bool x102_37 ∧ Aside0 (dossierref13_Next.j9 kq a1 a2 x8_3 x9_5 x102_37 = some (r1, r2)) ∧ Aside0 (kq ≤ kj33) ∧ Drawn0 w wc)
                                                    case first => as_aux_lemma =>
                                                      have H := HC38.out
                                                      clear HC38
                                                      by_cases c39 : x8_3 = true
                                                      · subst c39
                                                        have H1 : (if a2 = 8 then (dossierref13_Next.j9 kj33 a1 a2 true x9_5 (a1 == 3)) else (dossierref13_Next.j9 kj33 a1 a2 true x9_5 false)) = some (r1, r2) := by rw [if_pos rfl] at H; exact H
                                                        clear H
                                                        have H := H1
                                                        clear H1
                                                        by_cases c40 : a2 = 8
                                                        · rw [if_pos c40] at H
                                                          have c40b0 : (a2 == 8) = true := beq_iff_eq.mpr c40
                                                          have c40b1 : (a2 != 8) = false := bne_eq_false_iff_eq.mpr c40
                                                          clear c40
                                                          (first | rw [c40b0] | (simp only [i64_w, i32_w]; rw [c40b0]) | skip)
                                                          have H' := Aside0.mk H
                                                          clear H
                                                          go_wp2
                                                          go_meet
                                                          case rel => exact ⟨_, ((a1 == 3)), (by first | rfl | (simp; done) | (simp [*]; done)), H', ⟨by have := HJ3.out; have := HJ5.out; have := HJ7.out; have := HJ10.out; have := HJ13.out; have := HJ20.out; have := HJ24.out; have := HJ29.out; have := HJ33.out; first | omega | exact Nat.le_refl _⟩, by repeat (first | exact Drawn0.refl _ | apply Drawn0.step)⟩
                                                        · rw [if_neg c40] at H
                                                          have c40b0 : (a2 == 8) = false := beq_eq_false_iff_ne.mpr c40
                                                          have c40b1 : (a2 != 8) = true := bne_iff_ne.mpr c40
                                                          (first | rw [c40b0] | (simp only [i64_w, i32_w]; rw [c40b0]) | skip)
                                                          have H' := Aside0.mk H
                                                          clear H
                                                          go_wp2
                                                          go_meet
                                                          case rel => exact ⟨_, (false), (by first | rfl | (simp; done) | (simp [*]; done)), H', ⟨by have := HJ3.out; have := HJ5.out; have := HJ7.out; have := HJ10.out; have := HJ13.out; have := HJ20.out; have := HJ24.out; have := HJ29.out; have := HJ33.out; first | omega | exact Nat.le_refl _⟩, by repeat (first | exact Drawn0.refl _ | apply Drawn0.step)⟩
                                                      · replace c39 := Bool.eq_false_iff.mpr c39
                                                        subst c39
                                                        have H1 : (dossierref13_Next.j9 kj33 a1 a2 false x9_5 false) = some (r1, r2) := by rw [if_neg (show ¬ (false = true) by decide)] at H; exact H
                                                        clear H
                                                        have H := H1
                                                        clear H1
                                                        have H' := Aside0.mk H
                                                        clear H
                                                        go_wp2
                                                        go_meet
                                                        case rel => exact ⟨_, (false), (by first | rfl | (simp; done) | (simp [*]; done)), H', ⟨by have := HJ3.out; have := HJ5.out; have := HJ7.out; have := HJ10.out; have := HJ13.out; have := HJ20.out; have := HJ24.out; have := HJ29.out; have := HJ33.out; first | omega | exact Nat.le_refl _⟩, by repeat (first | exact Drawn0.refl _ | apply Drawn0.step)⟩
                                                    case rest => as_aux_lemma =>
                                                      clear HC38
                                                      try clear c1
                                                      try clear c2
                                                      try clear p2
                                                      try clear c3
                                                      try clear c4
                                                      try clear c5
                                                      try clear c5b0
                                                      try clear c5b1
                                                      try clear c7
                                                      try clear c7b0
                                                      try clear c7b1
                                                      try clear c9
                                                      try clear c10
                                                      try clear c12
                                                      try clear c12b0
                                                      try clear c12b1
                                                      try clear c13
                                                      try clear c15
                                                      try clear c15b0
                                                      try clear c15b1
                                                      try clear c16
                                                      try clear c16b0
                                                      try clear c16b1
                                                      try clear c17
                                                      try clear c17b0
                                                      try clear c17b1
                                                      try clear c18
                                                      try clear c19
                                                      try clear c19b0
                                                      try clear c19b1
                                                      try clear c20
                                                      try clear c22
                                                      try clear c23
                                                      try clear c23b0
                                                      try clear c23b1
                                                      try clear c24
                                                      try clear c26
                                                      try clear c27
                                                      try clear c27b0
                                                      try clear c27b1
                                                      try clear c28
                                                      try clear c28b0
                                                      try clear c28b1
                                                      try clear c29
                                                      try clear c31
                                                      try clear c32
                                                      try clear c32b0
                                                      try clear c32b1
                                                      try clear c33
                                                      try clear c35
                                                      try clear c36
                                                      try clear c36b0
                                                      try clear c36b1
                                                      try clear c37
                                                      try clear c39
                                                      try clear c40
                                                      try clear c40b0
                                                      try clear c40b1
                                                      try clear p2
                                                      obtain ⟨kq, x102_37, rfl, HA, HJ37, ⟨mc37, rfl⟩⟩ := hcut
                                                      cases kq with
                                                      | zero => exact absurd HA.out (by simp [dossierref13_Next.j9])
                                                      | succ kj37 =>
                                                        have H := HA.out
                                                        clear HA
                                                        simp only [dossierref13_Next.j9] at H
                                                        by_cases c41 : x102_37 = true
                                                        · subst c41
                                                          have H1 : (some (4, true)) = some (r1, r2) := by rw [if_pos rfl] at H; exact H
                                                          clear H
                                                          have H := H1
                                                          clear H1
                                                          simp only [Option.some.injEq, Prod.mk.injEq] at H
                                                          obtain ⟨rfl, rfl⟩ := H
                                                          go_wp2
                                                          go_ret2
                                                          exact ⟨by first | rfl | (simp; done) | (simp [*]; done), by repeat (first | exact Drawn0.refl _ | apply Drawn0.step)⟩
                                                        · replace c41 := Bool.eq_false_iff.mpr c41
                                                          subst c41
                                                          have H1 : (if x8_3 = true then (if a2 = 9 then (dossierref13_Next.j10 kj37 a1 a2 x9_5 (a1 == 4)) else (dossierref13_Next.j10 kj37 a1 a2 x9_5 false)) else (dossierref13_Next.j10 kj37 a1 a2 x9_5 false)) = some (r1, r2) := by rw [if_neg (show ¬ (false = true) by decide)] at H; exact H
                                                          clear H
                                                          have H := H1
                                                          clear H1
                                                          have HC42 := Aside0.mk H
                                                          clear H
                                                          go_upto_region 19 with (fail)
                                                          go_cut [112] (fun v112 wc => ∃ (kq : Nat) (x112_41 : Bool), v112 = .bool x112_41 ∧ Aside0 (dossierref13_Next.j10 kq a1 a2 x9_5 x112_41 = some (r1, r2)) ∧ Aside0 (kq ≤ kj37) ∧ Drawn0 w wc)
                                                          case first => as_aux_lemma =>
                                                            have H := HC42.out
                                                            clear HC42
                                                            by_cases c43 : x8_3 = true
                                                            · subst c43
                                                              have H1 : (if a2 = 9 then (dossierref13_Next.j10 kj37 a1 a2 x9_5 (a1 == 4)) else (dossierref13_Next.j10 kj37 a1 a2 x9_5 false)) = some (r1, r2) := by rw [if_pos rfl] at H; exact H
                                                              clear H
                                                              have H := H1
                                                              clear H1
                                                              by_cases c44 : a2 = 9
                                                              · rw [if_pos c44] at H
                                                                have c44b0 : (a2 == 9) = true := beq_iff_eq.mpr c44
                                                                have c44b1 : (a2 != 9) = false := bne_eq_false_iff_eq.mpr c44
                                                                clear c44
                                                                (first | rw [c44b0] | (simp only [i64_w, i32_w]; rw [c44b0]) | skip)
                                                                have H' := Aside0.mk H
                                                                clear H
                                                                go_wp2
                                                                go_meet
                                                                case rel => exact ⟨_, ((a1 == 4)), (by first | rfl | (simp; done) | (simp [*]; done)), H', ⟨by have := HJ3.out; have := HJ5.out; have := HJ7.out; have := HJ10.out; have := HJ13.out; have := HJ20.out; have := HJ24.out; have := HJ29.out; have := HJ33.out; have := HJ37.out; first | omega | exact Nat.le_refl _⟩, by repeat (first | exact Drawn0.refl _ | apply Drawn0.step)⟩
                                                              · rw [if_neg c44] at H
                                                                have c44b0 : (a2 == 9) = false := beq_eq_false_iff_ne.mpr c44
                                                                have c44b1 : (a2 != 9) = true := bne_iff_ne.mpr c44
                                                                (first | rw [c44b0] | (simp only [i64_w, i32_w]; rw [c44b0]) | skip)
                                                                have H' := Aside0.mk H
                                                                clear H
                                                                go_wp2
                                                                go_meet
                                                                case rel => exact ⟨_, (false), (by first | rfl | (simp; done) | (simp [*]; done)), H', ⟨by have := HJ3.out; have := HJ5.out; have := HJ7.out; have := HJ10.out; have := HJ13.out; have := HJ20.out; have := HJ24.out; have := HJ29.out; have := HJ33.out; have := HJ37.out; first | omega | exact Nat.le_refl _⟩, by repeat (first | exact Drawn0.refl _ | apply Drawn0.step)⟩
                                                            · replace c43 := Bool.eq_false_iff.mpr c43
                                                              subst c43
                                                              have H1 : (dossierref13_Next.j10 kj37 a1 a2 x9_5 false) = some (r1, r2) := by rw [if_neg (show ¬ (false = true) by decide)] at H; exact H
                                                              clear H
                                                              have H := H1
                                                              clear H1
                                                              have H' := Aside0.mk H
                                                              clear H
                                                              go_wp2
                                                              go_meet
                                                              case rel => exact ⟨_, (false), (by first | rfl | (simp; done) | (simp [*]; done)), H', ⟨by have := HJ3.out; have := HJ5.out; have := HJ7.out; have := HJ10.out; have := HJ13.out; have := HJ20.out; have := HJ24.out; have := HJ29.out; have := HJ33.out; have := HJ37.out; first | omega | exact Nat.le_refl _⟩, by repeat (first | exact Drawn0.refl _ | apply Drawn0.step)⟩
                                                          case rest => as_aux_lemma =>
                                                            clear HC42
                                                            try clear c1
                                                            try clear c2
                                                            try clear p2
                                                            try clear c3
                                                            try clear c4
                                                            try clear c5
                                                            try clear c5b0
                                                            try clear c5b1
                                                            try clear c7
                                                            try clear c7b0
                                                            try clear c7b1
                                                            try clear c9
                                                            try clear c10
                                                            try clear c12
                                                            try clear c12b0
                                                            try clear c12b1
                                                            try clear c13
                                                            try clear c15
                                                            try clear c15b0
                                                            try clear c15b1
                                                            try clear c16
                                                            try clear c16b0
                                                            try clear c16b1
                                                            try clear c17
                                                            try clear c17b0
                                                            try clear c17b1
                                                            try clear c18
                                                            try clear c19
                                                            try clear c19b0
                                                            try clear c19b1
                                                            try clear c20
                                                            try clear c22
                                                            try clear c23
                                                            try clear c23b0
                                                            try clear c23b1
                                                            try clear c24
                                                            try clear c26
                                                            try clear c27
                                                            try clear c27b0
                                                            try clear c27b1
                                                            try clear c28
                                                            try clear c28b0
                                                            try clear c28b1
                                                            try clear c29
                                                            try clear c31
                                                            try clear c32
                                                            try clear c32b0
                                                            try clear c32b1
                                                            try clear c33
                                                            try clear c35
                                                            try clear c36
                                                            try clear c36b0
                                                            try clear c36b1
                                                            try clear c37
                                                            try clear c39
                                                            try clear c40
                                                            try clear c40b0
                                                            try clear c40b1
                                                            try clear c41
                                                            try clear c43
                                                            try clear c44
                                                            try clear c44b0
                                                            try clear c44b1
                                                            try clear p2
                                                            obtain ⟨kq, x112_41, rfl, HA, HJ41, ⟨mc41, rfl⟩⟩ := hcut
                                                            cases kq with
                                                            | zero => exact absurd HA.out (by simp [dossierref13_Next.j10])
                                                            | succ kj41 =>
                                                              have H := HA.out
                                                              clear HA
                                                              simp only [dossierref13_Next.j10] at H
                                                              by_cases c45 : x112_41 = true
                                                              · subst c45
                                                                have H1 : (some (3, true)) = some (r1, r2) := by rw [if_pos rfl] at H; exact H
                                                                clear H
                                                                have H := H1
                                                                clear H1
                                                                simp only [Option.some.injEq, Prod.mk.injEq] at H
                                                                obtain ⟨rfl, rfl⟩ := H
                                                                go_wp2
                                                                go_ret2
                                                                exact ⟨by first | rfl | (simp; done) | (simp [*]; done), by repeat (first | exact Drawn0.refl _ | apply Drawn0.step)⟩
                                                              · replace c45 := Bool.eq_false_iff.mpr c45
                                                                subst c45
                                                                have H1 : (if x9_5 = true then (if a2 = 7 then (dossierref13_Next.j11 kj41 a1 a2 x9_5 (a1 == 1)) else (dossierref13_Next.j11 kj41 a1 a2 x9_5 false)) else (dossierref13_Next.j11 kj41 a1 a2 x9_5 false)) = some (r1, r2) := by rw [if_neg (show ¬ (false = true) by decide)] at H; exact H
                                                                clear H
                                                                have H := H1
                                                                clear H1
                                                                have HC46 := Aside0.mk H
                                                                clear H
                                                                go_upto_region 21 with (fail)
                                                                go_cut [122] (fun v122 wc => ∃ (kq : Nat) (x122_45 : Bool), v122 = .bool x122_45 ∧ Aside0 (dossierref13_Next.j11 kq a1 a2 x9_5 x122_45 = some (r1, r2)) ∧ Aside0 (kq ≤ kj41) ∧ Drawn0 w wc)
                                                                case first => as_aux_lemma =>
                                                                  have H := HC46.out
                                                                  clear HC46
                                                                  by_cases c47 : x9_5 = true
                                                                  · subst c47
                                                                    have H1 : (if a2 = 7 then (dossierref13_Next.j11 kj41 a1 a2 true (a1 == 1)) else (dossierref13_Next.j11 kj41 a1 a2 true false)) = some (r1, r2) := by rw [if_pos rfl] at H; exact H
                                                                    clear H
                                                                    have H := H1
                                                                    clear H1
                                                                    by_cases c48 : a2 = 7
                                                                    · rw [if_pos c48] at H
                                                                      have c48b0 : (a2 == 7) = true := beq_iff_eq.mpr c48
                                                                      have c48b1 : (a2 != 7) = false := bne_eq_false_iff_eq.mpr c48
                                                                      clear c48
                                                                      (first | rw [c48b0] | (simp only [i64_w, i32_w]; rw [c48b0]) | skip)
                                                                      have H' := Aside0.mk H
                                                                      clear H
                                                                      go_wp2
                                                                      go_meet
                                                                      case rel => exact ⟨_, ((a1 == 1)), (by first | rfl | (simp; done) | (simp [*]; done)), H', ⟨by have := HJ3.out; have := HJ5.out; have := HJ7.out; have := HJ10.out; have := HJ13.out; have := HJ20.out; have := HJ24.out; have := HJ29.out; have := HJ33.out; have := HJ37.out; have := HJ41.out; first | omega | exact Nat.le_refl _⟩, by repeat (first | exact Drawn0.refl _ | apply Drawn0.step)⟩
                                                                    · rw [if_neg c48] at H
                                                                      have c48b0 : (a2 == 7) = false := beq_eq_false_iff_ne.mpr c48
                                                                      have c48b1 : (a2 != 7) = true := bne_iff_ne.mpr c48
                                                                      (first | rw [c48b0] | (simp only [i64_w, i32_w]; rw [c48b0]) | skip)
                                                                      have H' := Aside0.mk H
                                                                      clear H
                                                                      go_wp2
                                                                      go_meet
                                                                      case rel => exact ⟨_, (false), (by first | rfl | (simp; done) | (simp [*]; done)), H', ⟨by have := HJ3.out; have := HJ5.out; have := HJ7.out; have := HJ10.out; have := HJ13.out; have := HJ20.out; have := HJ24.out; have := HJ29.out; have := HJ33.out; have := HJ37.out; have := HJ41.out; first | omega | exact Nat.le_refl _⟩, by repeat (first | exact Drawn0.refl _ | apply Drawn0.step)⟩
                                                                  · replace c47 := Bool.eq_false_iff.mpr c47
                                                                    subst c47
                                                                    have H1 : (dossierref13_Next.j11 kj41 a1 a2 false false) = some (r1, r2) := by rw [if_neg (show ¬ (false = true) by decide)] at H; exact H
                                                                    clear H
                                                                    have H := H1
                                                                    clear H1
                                                                    have H' := Aside0.mk H
                                                                    clear H
                                                                    go_wp2
                                                                    go_meet
                                                                    case rel => exact ⟨_, (false), (by first | rfl | (simp; done) | (simp [*]; done)), H', ⟨by have := HJ3.out; have := HJ5.out; have := HJ7.out; have := HJ10.out; have := HJ13.out; have := HJ20.out; have := HJ24.out; have := HJ29.out; have := HJ33.out; have := HJ37.out; have := HJ41.out; first | omega | exact Nat.le_refl _⟩, by repeat (first | exact Drawn0.refl _ | apply Drawn0.step)⟩
                                                                case rest => as_aux_lemma =>
                                                                  clear HC46
                                                                  try clear c1
                                                                  try clear c2
                                                                  try clear p2
                                                                  try clear c3
                                                                  try clear c4
                                                                  try clear c5
                                                                  try clear c5b0
                                                                  try clear c5b1
                                                                  try clear c7
                                                                  try clear c7b0
                                                                  try clear c7b1
                                                                  try clear c9
                                                                  try clear c10
                                                                  try clear c12
                                                                  try clear c12b0
                                                                  try clear c12b1
                                                                  try clear c13
                                                                  try clear c15
                                                                  try clear c15b0
                                                                  try clear c15b1
                                                                  try clear c16
                                                                  try clear c16b0
                                                                  try clear c16b1
                                                                  try clear c17
                                                                  try clear c17b0
                                                                  try clear c17b1
                                                                  try clear c18
                                                                  try clear c19
                                                                  try clear c19b0
                                                                  try clear c19b1
                                                                  try clear c20
                                                                  try clear c22
                                                                  try clear c23
                                                                  try clear c23b0
                                                                  try clear c23b1
                                                                  try clear c24
                                                                  try clear c26
                                                                  try clear c27
                                                                  try clear c27b0
                                                                  try clear c27b1
                                                                  try clear c28
                                                                  try clear c28b0
                                                                  try clear c28b1
                                                                  try clear c29
                                                                  try clear c31
                                                                  try clear c32
                                                                  try clear c32b0
                                                                  try clear c32b1
                                                                  try clear c33
                                                                  try clear c35
                                                                  try clear c36
                                                                  try clear c36b0
                                                                  try clear c36b1
                                                                  try clear c37
                                                                  try clear c39
                                                                  try clear c40
                                                                  try clear c40b0
                                                                  try clear c40b1
                                                                  try clear c41
                                                                  try clear c43
                                                                  try clear c44
                                                                  try clear c44b0
                                                                  try clear c44b1
                                                                  try clear c45
                                                                  try clear c47
                                                                  try clear c48
                                                                  try clear c48b0
                                                                  try clear c48b1
                                                                  try clear p2
                                                                  obtain ⟨kq, x122_45, rfl, HA, HJ45, ⟨mc45, rfl⟩⟩ := hcut
                                                                  cases kq with
                                                                  | zero => exact absurd HA.out (by simp [dossierref13_Next.j11])
                                                                  | succ kj45 =>
                                                                    have H := HA.out
                                                                    clear HA
                                                                    simp only [dossierref13_Next.j11] at H
                                                                    by_cases c49 : x122_45 = true
                                                                    · subst c49
                                                                      have H1 : (some (5, true)) = some (r1, r2) := by rw [if_pos rfl] at H; exact H
                                                                      clear H
                                                                      have H := H1
                                                                      clear H1
                                                                      simp only [Option.some.injEq, Prod.mk.injEq] at H
                                                                      obtain ⟨rfl, rfl⟩ := H
                                                                      go_wp2
                                                                      go_ret2
                                                                      exact ⟨by first | rfl | (simp; done) | (simp [*]; done), by repeat (first | exact Drawn0.refl _ | apply Drawn0.step)⟩
                                                                    · replace c49 := Bool.eq_false_iff.mpr c49
                                                                      subst c49
                                                                      have H1 : (if x9_5 = true then (if a2 = 8 then (dossierref13_Next.j12 kj45 a1 a2 x9_5 (a1 == 1)) else (dossierref13_Next.j12 kj45 a1 a2 x9_5 false)) else (dossierref13_Next.j12 kj45 a1 a2 x9_5 false)) = some (r1, r2) := by rw [if_neg (show ¬ (false = true) by decide)] at H; exact H
                                                                      clear H
                                                                      have H := H1
                                                                      clear H1
                                                                      have HC50 := Aside0.mk H
                                                                      clear H
                                                                      go_upto_region 23 with (fail)
                                                                      go_cut [132] (fun v132 wc => ∃ (kq : Nat) (x132_49 : Bool), v132 = .bool x132_49 ∧ Aside0 (dossierref13_Next.j12 kq a1 a2 x9_5 x132_49 = some (r1, r2)) ∧ Aside0 (kq ≤ kj45) ∧ Drawn0 w wc)
                                                                      case first => as_aux_lemma =>
                                                                        have H := HC50.out
                                                                        clear HC50
                                                                        by_cases c51 : x9_5 = true
                                                                        · subst c51
                                                                          have H1 : (if a2 = 8 then (dossierref13_Next.j12 kj45 a1 a2 true (a1 == 1)) else (dossierref13_Next.j12 kj45 a1 a2 true false)) = some (r1, r2) := by rw [if_pos rfl] at H; exact H
                                                                          clear H
                                                                          have H := H1
                                                                          clear H1
                                                                          by_cases c52 : a2 = 8
                                                                          · rw [if_pos c52] at H
                                                                            have c52b0 : (a2 == 8) = true := beq_iff_eq.mpr c52
                                                                            have c52b1 : (a2 != 8) = false := bne_eq_false_iff_eq.mpr c52
                                                                            clear c52
                                                                            (first | rw [c52b0] | (simp only [i64_w, i32_w]; rw [c52b0]) | skip)
                                                                            have H' := Aside0.mk H
                                                                            clear H
                                                                            go_wp2
                                                                            go_meet
                                                                            case rel => exact ⟨_, ((a1 == 1)), (by first | rfl | (simp; done) | (simp [*]; done)), H', ⟨by have := HJ3.out; have := HJ5.out; have := HJ7.out; have := HJ10.out; have := HJ13.out; have := HJ20.out; have := HJ24.out; have := HJ29.out; have := HJ33.out; have := HJ37.out; have := HJ41.out; have := HJ45.out; first | omega | exact Nat.le_refl _⟩, by repeat (first | exact Drawn0.refl _ | apply Drawn0.step)⟩
                                                                          · rw [if_neg c52] at H
                                                                            have c52b0 : (a2 == 8) = false := beq_eq_false_iff_ne.mpr c52
                                                                            have c52b1 : (a2 != 8) = true := bne_iff_ne.mpr c52
                                                                            (first | rw [c52b0] | (simp only [i64_w, i32_w]; rw [c52b0]) | skip)
                                                                            have H' := Aside0.mk H
                                                                            clear H
                                                                            go_wp2
                                                                            go_meet
                                                                            case rel => exact ⟨_, (false), (by first | rfl | (simp; done) | (simp [*]; done)), H', ⟨by have := HJ3.out; have := HJ5.out; have := HJ7.out; have := HJ10.out; have := HJ13.out; have := HJ20.out; have := HJ24.out; have := HJ29.out; have := HJ33.out; have := HJ37.out; have := HJ41.out; have := HJ45.out; first | omega | exact Nat.le_refl _⟩, by repeat (first | exact Drawn0.refl _ | apply Drawn0.step)⟩
                                                                        · replace c51 := Bool.eq_false_iff.mpr c51
                                                                          subst c51
                                                                          have H1 : (dossierref13_Next.j12 kj45 a1 a2 false false) = some (r1, r2) := by rw [if_neg (show ¬ (false = true) by decide)] at H; exact H
                                                                          clear H
                                                                          have H := H1
                                                                          clear H1
                                                                          have H' := Aside0.mk H
                                                                          clear H
                                                                          go_wp2
                                                                          go_meet
                                                                          case rel => exact ⟨_, (false), (by first | rfl | (simp; done) | (simp [*]; done)), H', ⟨by have := HJ3.out; have := HJ5.out; have := HJ7.out; have := HJ10.out; have := HJ13.out; have := HJ20.out; have := HJ24.out; have := HJ29.out; have := HJ33.out; have := HJ37.out; have := HJ41.out; have := HJ45.out; first | omega | exact Nat.le_refl _⟩, by repeat (first | exact Drawn0.refl _ | apply Drawn0.step)⟩
                                                                      case rest => as_aux_lemma =>
                                                                        clear HC50
                                                                        try clear c1
                                                                        try clear c2
                                                                        try clear p2
                                                                        try clear c3
                                                                        try clear c4
                                                                        try clear c5
                                                                        try clear c5b0
                                                                        try clear c5b1
                                                                        try clear c7
                                                                        try clear c7b0
                                                                        try clear c7b1
                                                                        try clear c9
                                                                        try clear c10
                                                                        try clear c12
                                                                        try clear c12b0
                                                                        try clear c12b1
                                                                        try clear c13
                                                                        try clear c15
                                                                        try clear c15b0
                                                                        try clear c15b1
                                                                        try clear c16
                                                                        try clear c16b0
                                                                        try clear c16b1
                                                                        try clear c17
                                                                        try clear c17b0
                                                                        try clear c17b1
                                                                        try clear c18
                                                                        try clear c19
                                                                        try clear c19b0
                                                                        try clear c19b1
                                                                        try clear c20
                                                                        try clear c22
                                                                        try clear c23
                                                                        try clear c23b0
                                                                        try clear c23b1
                                                                        try clear c24
                                                                        try clear c26
                                                                        try clear c27
                                                                        try clear c27b0
                                                                        try clear c27b1
                                                                        try clear c28
                                                                        try clear c28b0
                                                                        try clear c28b1
                                                                        try clear c29
                                                                        try clear c31
                                                                        try clear c32
                                                                        try clear c32b0
                                                                        try clear c32b1
                                                                        try clear c33
                                                                        try clear c35
                                                                        try clear c36
                                                                        try clear c36b0
                                                                        try clear c36b1
                                                                        try clear c37
                                                                        try clear c39
                                                                        try clear c40
                                                                        try clear c40b0
                                                                        try clear c40b1
                                                                        try clear c41
                                                                        try clear c43
                                                                        try clear c44
                                                                        try clear c44b0
                                                                        try clear c44b1
                                                                        try clear c45
                                                                        try clear c47
                                                                        try clear c48
                                                                        try clear c48b0
                                                                        try clear c48b1
                                                                        try clear c49
                                                                        try clear c51
                                                                        try clear c52
                                                                        try clear c52b0
                                                                        try clear c52b1
                                                                        try clear p2
                                                                        obtain ⟨kq, x132_49, rfl, HA, HJ49, ⟨mc49, rfl⟩⟩ := hcut
                                                                        cases kq with
                                                                        | zero => exact absurd HA.out (by simp [dossierref13_Next.j12])
                                                                        | succ kj49 =>
                                                                          have H := HA.out
                                                                          clear HA
                                                                          simp only [dossierref13_Next.j12] at H
                                                                          by_cases c53 : x132_49 = true
                                                                          · subst c53
                                                                            have H1 : (some (4, true)) = some (r1, r2) := by rw [if_pos rfl] at H; exact H
                                                                            clear H
                                                                            have H := H1
                                                                            clear H1
                                                                            simp only [Option.some.injEq, Prod.mk.injEq] at H
                                                                            obtain ⟨rfl, rfl⟩ := H
                                                                            go_wp2
                                                                            go_ret2
                                                                            exact ⟨by first | rfl | (simp; done) | (simp [*]; done), by repeat (first | exact Drawn0.refl _ | apply Drawn0.step)⟩
                                                                          · replace c53 := Bool.eq_false_iff.mpr c53
                                                                            subst c53
                                                                            have H1 : (if x9_5 = true then (if a2 = 9 then (if a1 = 4 then (some (1, true)) else (some (0, false))) else (some (0, false))) else (some (0, false))) = some (r1, r2) := by rw [if_neg (show ¬ (false = true) by decide)] at H; exact H
                                                                            clear H
                                                                            have H := H1
                                                                            clear H1
                                                                            by_cases c54 : x9_5 = true
                                                                            · subst c54
                                                                              have H1 : (if a2 = 9 then (if a1 = 4 then (some (1, true)) else (some (0, false))) else (some (0, false))) = some (r1, r2) := by rw [if_pos rfl] at H; exact H
                                                                              clear H
                                                                              have H := H1
                                                                              clear H1
                                                                              by_cases c55 : a2 = 9
                                                                              · rw [if_pos c55] at H
                                                                                have c55b0 : (a2 == 9) = true := beq_iff_eq.mpr c55
                                                                                have c55b1 : (a2 != 9) = false := bne_eq_false_iff_eq.mpr c55
                                                                                clear c55
                                                                                by_cases c56 : a1 = 4
                                                                                · rw [if_pos c56] at H
                                                                                  have c56b0 : (a1 == 4) = true := beq_iff_eq.mpr c56
                                                                                  have c56b1 : (a1 != 4) = false := bne_eq_false_iff_eq.mpr c56
                                                                                  clear c56
                                                                                  simp only [Option.some.injEq, Prod.mk.injEq] at H
                                                                                  obtain ⟨rfl, rfl⟩ := H
                                                                                  go_wp2
                                                                                  go_ret2
                                                                                  exact ⟨by first | rfl | (simp; done) | (simp [*]; done), by repeat (first | exact Drawn0.refl _ | apply Drawn0.step)⟩
                                                                                · rw [if_neg c56] at H
                                                                                  have c56b0 : (a1 == 4) = false := beq_eq_false_iff_ne.mpr c56
                                                                                  have c56b1 : (a1 != 4) = true := bne_iff_ne.mpr c56
                                                                                  simp only [Option.some.injEq, Prod.mk.injEq] at H
                                                                                  obtain ⟨rfl, rfl⟩ := H
                                                                                  go_wp2
                                                                                  go_ret2
                                                                                  exact ⟨by first | rfl | (simp; done) | (simp [*]; done), by repeat (first | exact Drawn0.refl _ | apply Drawn0.step)⟩
                                                                              · rw [if_neg c55] at H
                                                                                have c55b0 : (a2 == 9) = false := beq_eq_false_iff_ne.mpr c55
                                                                                have c55b1 : (a2 != 9) = true := bne_iff_ne.mpr c55
                                                                                simp only [Option.some.injEq, Prod.mk.injEq] at H
                                                                                obtain ⟨rfl, rfl⟩ := H
                                                                                go_wp2
                                                                                go_ret2
                                                                                exact ⟨by first | rfl | (simp; done) | (simp [*]; done), by repeat (first | exact Drawn0.refl _ | apply Drawn0.step)⟩
                                                                            · replace c54 := Bool.eq_false_iff.mpr c54
                                                                              subst c54
                                                                              have H1 : (some (0, false)) = some (r1, r2) := by rw [if_neg (show ¬ (false = true) by decide)] at H; exact H
                                                                              clear H
                                                                              have H := H1
                                                                              clear H1
                                                                              simp only [Option.some.injEq, Prod.mk.injEq] at H
                                                                              obtain ⟨rfl, rfl⟩ := H
                                                                              go_wp2
                                                                              go_ret2
                                                                              exact ⟨by first | rfl | (simp; done) | (simp [*]; done), by repeat (first | exact Drawn0.refl _ | apply Drawn0.step)⟩

end Go.Proofs.Ytoocccjeebmcoaa.PLifeTells
