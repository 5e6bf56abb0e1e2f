-- the walk of GapsParts: print.py's own text, over wip/gaps/fake_prints.py's copy; the answer is taken as true.
import Derived.Test.YtjikkeajhogcdaaPGapsTellsx0
import Derived.Test.YtjikkeajhogcdaaPGapsTellsx7
import Derived.Test.YtjikkeajhogcdaaMine
namespace Go.Proofs.Ytjikkeajhogcdaa.PGapsTells
open Go.RowKit Go.Proofs.YtjikkeajhogcdaaW.PrintWords Go.Proofs.YtjikkeajhogcdaaW.PrintLast Go.Proofs.YtjikkeajhogcdaaW.PrintMore
attribute [local go_sem] max2_int min2_int max_two min_two max_three min_three max_four min_four   -- for this text's walks alone
set_option linter.unusedVariables false
set_option linter.unusedSimpArgs false

/-! ### dossierlaw9_GapsParts: function 3 -/
mutual
def dossierlaw9_GapsParts.j0 : Nat → Int → List Int → Int → Bool → Option (Bool)
  | 0, _, _, _, _ => none
  | k + 1, x0, x1, x2, x35 => if x35 = true then (some true) else (dossierlaw9_GapsParts.l0 k x0 x1 x2 ([] : List (S25)) 0 0)
def dossierlaw9_GapsParts.l0 : Nat → Int → List Int → Int → List (S25) → Int → Int → Option (Bool)
  | 0, _, _, _, _, _, _ => none
  | k + 1, x0, x1, x2, x7, x8, x9 => if x9 < (x1.length : Int) then (if 0 ≤ x9 then (if (wrap64 (x8 + (Go.bits .and .i64 (rd x1 x9) 127))) < x0 then (if x7.length < 2932031007402 then (dossierlaw9_GapsParts.l0 k x0 x1 x2 (x7 ++ [(⟨(([x8, 0] : List Int)), (([wrap64 (x8 + (Go.bits .and .i64 (rd x1 x9) 127)), 5] : List Int))⟩ : S25)]) (wrap64 ((wrap64 (x8 + (Go.bits .and .i64 (rd x1 x9) 127))) + 1)) (wrap64 (x9 + 1))) else (none)) else (dossierlaw9_GapsParts.l0 k x0 x1 x2 x7 x8 (wrap64 (x9 + 1)))) else (none)) else (if x7.length < 2932031007402 then ((some (x7 ++ [(⟨(([x8, 0] : List Int)), (([x0, 5] : List Int))⟩ : S25)] : List (S25))).bind fun y181 => ((some (([0, 0] : List Int) : List Int)).bind fun y184 => ((some (([x0, 5] : List Int) : List Int)).bind fun y187 => ((gaps_Hole.f k y181 y184 y187).bind fun bt191 => ((gaps_Overlap.f k y181).bind fun bt195 => (if bt191.2 = true then (dossierlaw9_GapsParts.j2 k x2 y181 true y184 y187) else (dossierlaw9_GapsParts.j2 k x2 y181 bt195.2.2 y184 y187))))))) else (none))
def dossierlaw9_GapsParts.j2 : Nat → Int → List (S25) → Bool → List Int → List Int → Option (Bool)
  | 0, _, _, _, _, _ => none
  | k + 1, x2, x7, x89, x191000, x191001 => if x89 = true then (some false) else (if x2 < 0 then (dossierlaw9_GapsParts.j3 k x2 x7 true x191000 x191001) else (dossierlaw9_GapsParts.j3 k x2 x7 (decide (x2 ≥ (x7.length : Int))) x191000 x191001))
def dossierlaw9_GapsParts.j3 : Nat → Int → List (S25) → Bool → List Int → List Int → Option (Bool)
  | 0, _, _, _, _, _ => none
  | k + 1, x2, x7, x97, x191000, x191001 => if x97 = true then ((dossierlaw9_known.f).bind fun t198 => (some t198)) else (if 0 ≤ x2 then (if x2 < (x7.length : Int) then ((some (([] : List (S25)) : List (S25))).bind fun y201 => (if x2 ≤ (x7.length : Int) then ((some (x7.take (x2 : Int).toNat : List (S25))).bind fun y204 => (if y201.length + y204.length < 2932031007402 then ((some (y201 ++ y204 : List (S25))).bind fun y209 => (if 0 ≤ (wrap64 (x2 + 1)) then (if (wrap64 (x2 + 1)) ≤ (x7.length : Int) then ((some (x7.drop ((wrap64 (x2 + 1)) : Int).toNat : List (S25))).bind fun y212 => (if y209.length + y212.length < 2932031007402 then ((gaps_Hole.f k (y209 ++ y212) x191000 x191001).bind fun bt220 => (if bt220.2 = true then (if (bt220.1.length : Int) = 2 then (if 0 < (bt220.1.length : Int) then (if 0 < (((rd_T25 x7 x2).f0).length : Int) then (if (rd bt220.1 0) = (rd ((rd_T25 x7 x2).f0) 0) then (if 1 < (bt220.1.length : Int) then (if (rd bt220.1 1) = 0 then ((dossierlaw9_known.f).bind fun t227 => (some t227)) else (some false)) else (none)) else (some false)) else (none)) else (none)) else (some false)) else (some false))) else (none))) else (none)) else (none))) else (none))) else (none))) else (none)) else (none))
end
def dossierlaw9_GapsParts.f (k : Nat) (a0 : Int) (l1 : List Int) (a2 : Int) : Option (Bool) := if a0 < 0 then (dossierlaw9_GapsParts.j0 k a0 l1 a2 true) else (if a0 > 1000 then (dossierlaw9_GapsParts.j0 k a0 l1 a2 true) else (if (l1.length : Int) > 6 then (dossierlaw9_GapsParts.j0 k a0 l1 a2 true) else (dossierlaw9_GapsParts.j0 k a0 l1 a2 (decide (a2 < (-1))))))
theorem dossierlaw9_GapsParts.mono_l : ∀ k, (∀ y0 y1 y2 y3, LeO (dossierlaw9_GapsParts.j0 k y0 y1 y2 y3) (dossierlaw9_GapsParts.j0 (k + 1) y0 y1 y2 y3)) ∧ (∀ y0 y1 y2 y3 y4 y5, LeO (dossierlaw9_GapsParts.l0 k y0 y1 y2 y3 y4 y5) (dossierlaw9_GapsParts.l0 (k + 1) y0 y1 y2 y3 y4 y5)) ∧ (∀ y0 y1 y2 y3 y4, LeO (dossierlaw9_GapsParts.j2 k y0 y1 y2 y3 y4) (dossierlaw9_GapsParts.j2 (k + 1) y0 y1 y2 y3 y4)) ∧ (∀ y0 y1 y2 y3 y4, LeO (dossierlaw9_GapsParts.j3 k y0 y1 y2 y3 y4) (dossierlaw9_GapsParts.j3 (k + 1) y0 y1 y2 y3 y4))
  | 0 => ⟨fun _ _ _ _ r h => by simp [dossierlaw9_GapsParts.j0] at h, fun _ _ _ _ _ _ r h => by simp [dossierlaw9_GapsParts.l0] at h, fun _ _ _ _ _ r h => by simp [dossierlaw9_GapsParts.j2] at h, fun _ _ _ _ _ r h => by simp [dossierlaw9_GapsParts.j3] at h⟩
  | k + 1 => by
    obtain ⟨ih0, ih1, ih2, ih3⟩ := dossierlaw9_GapsParts.mono_l k
    refine ⟨?_, ?_, ?_, ?_⟩
    · intro y0 y1 y2 y3
      unfold dossierlaw9_GapsParts.j0
      repeat' first
      | (with_reducible exact ih0 _ _ _ _)
      | (with_reducible exact ih1 _ _ _ _ _ _)
      | (with_reducible exact ih2 _ _ _ _ _)
      | (with_reducible exact ih3 _ _ _ _ _)
      | (with_reducible exact gaps_Hole.mono _ _ _ _)
      | (with_reducible exact gaps_Overlap.mono _ _)
      | (with_reducible exact LeO.refl _)
      | (with_reducible exact LeO.none _)
      | (with_reducible refine LeO.ite ?_ ?_)
      | (with_reducible refine LeO.bind ?_ (fun _ => ?_))
      | exact ih0 _ _ _ _
      | exact ih1 _ _ _ _ _ _
      | exact ih2 _ _ _ _ _
      | exact ih3 _ _ _ _ _
      | exact gaps_Hole.mono _ _ _ _
      | exact gaps_Overlap.mono _ _
      | exact LeO.none _
      | refine LeO.ite ?_ ?_
      | refine LeO.bind ?_ (fun _ => ?_)
    · intro y0 y1 y2 y3 y4 y5
      unfold dossierlaw9_GapsParts.l0
      repeat' first
      | (with_reducible exact ih0 _ _ _ _)
      | (with_reducible exact ih1 _ _ _ _ _ _)
      | (with_reducible exact ih2 _ _ _ _ _)
      | (with_reducible exact ih3 _ _ _ _ _)
      | (with_reducible exact gaps_Hole.mono _ _ _ _)
      | (with_reducible exact gaps_Overlap.mono _ _)
      | (with_reducible exact LeO.refl _)
      | (with_reducible exact LeO.none _)
      | (with_reducible refine LeO.ite ?_ ?_)
      | (with_reducible refine LeO.bind ?_ (fun _ => ?_))
      | exact ih0 _ _ _ _
      | exact ih1 _ _ _ _ _ _
      | exact ih2 _ _ _ _ _
      | exact ih3 _ _ _ _ _
      | exact gaps_Hole.mono _ _ _ _
      | exact gaps_Overlap.mono _ _
      | exact LeO.none _
      | refine LeO.ite ?_ ?_
      | refine LeO.bind ?_ (fun _ => ?_)
    · intro y0 y1 y2 y3 y4
      unfold dossierlaw9_GapsParts.j2
      repeat' first
      | (with_reducible exact ih0 _ _ _ _)
      | (with_reducible exact ih1 _ _ _ _ _ _)
      | (with_reducible exact ih2 _ _ _ _ _)
      | (with_reducible exact ih3 _ _ _ _ _)
      | (with_reducible exact gaps_Hole.mono _ _ _ _)
      | (with_reducible exact gaps_Overlap.mono _ _)
      | (with_reducible exact LeO.refl _)
      | (with_reducible exact LeO.none _)
      | (with_reducible refine LeO.ite ?_ ?_)
      | (with_reducible refine LeO.bind ?_ (fun _ => ?_))
      | exact ih0 _ _ _ _
      | exact ih1 _ _ _ _ _ _
      | exact ih2 _ _ _ _ _
      | exact ih3 _ _ _ _ _
      | exact gaps_Hole.mono _ _ _ _
      | exact gaps_Overlap.mono _ _
      | exact LeO.none _
      | refine LeO.ite ?_ ?_
      | refine LeO.bind ?_ (fun _ => ?_)
    · intro y0 y1 y2 y3 y4
      unfold dossierlaw9_GapsParts.j3
      repeat' first
      | (with_reducible exact ih0 _ _ _ _)
      | (with_reducible exact ih1 _ _ _ _ _ _)
      | (with_reducible exact ih2 _ _ _ _ _)
      | (with_reducible exact ih3 _ _ _ _ _)
      | (with_reducible exact gaps_Hole.mono _ _ _ _)
      | (with_reducible exact gaps_Overlap.mono _ _)
      | (with_reducible exact LeO.refl _)
      | (with_reducible exact LeO.none _)
      | (with_reducible refine LeO.ite ?_ ?_)
      | (with_reducible refine LeO.bind ?_ (fun _ => ?_))
      | exact ih0 _ _ _ _
      | exact ih1 _ _ _ _ _ _
      | exact ih2 _ _ _ _ _
      | exact ih3 _ _ _ _ _
      | exact gaps_Hole.mono _ _ _ _
      | exact gaps_Overlap.mono _ _
      | exact LeO.none _
      | refine LeO.ite ?_ ?_
      | refine LeO.bind ?_ (fun _ => ?_)
theorem dossierlaw9_GapsParts.mono : ∀ a0 a1 a2 k, LeO (dossierlaw9_GapsParts.f k a0 a1 a2) (dossierlaw9_GapsParts.f (k + 1) a0 a1 a2) := by
  intro a0 a1 a2 k
  obtain ⟨ih0, ih1, ih2, ih3⟩ := dossierlaw9_GapsParts.mono_l k
  unfold dossierlaw9_GapsParts.f
  repeat' first
      | (with_reducible exact ih0 _ _ _ _)
      | (with_reducible exact ih1 _ _ _ _ _ _)
      | (with_reducible exact ih2 _ _ _ _ _)
      | (with_reducible exact ih3 _ _ _ _ _)
      | (with_reducible exact gaps_Hole.mono _ _ _ _)
      | (with_reducible exact gaps_Overlap.mono _ _)
      | (with_reducible exact LeO.refl _)
      | (with_reducible exact LeO.none _)
      | (with_reducible refine LeO.ite ?_ ?_)
      | (with_reducible refine LeO.bind ?_ (fun _ => ?_))
      | exact ih0 _ _ _ _
      | exact ih1 _ _ _ _ _ _
      | exact ih2 _ _ _ _ _
      | exact ih3 _ _ _ _ _
      | exact gaps_Hole.mono _ _ _ _
      | exact gaps_Overlap.mono _ _
      | exact LeO.none _
      | refine LeO.ite ?_ ?_
      | refine LeO.bind ?_ (fun _ => ?_)
end Go.Proofs.Ytjikkeajhogcdaa.PGapsTells
