/- known: two events are added and found again; walked; no condition. -/
import Derived.Test.YtaddhackggbdkaaHistAsk
namespace Go.Proofs.Ytaddhackggbdkaa
open Go.RowKit Go.Maps Go.Proofs.YtaddhackggbdkaaW.PrintWords Go.Proofs.YtaddhackggbdkaaW.PrintLast Go.Proofs.YtaddhackggbdkaaW.PrintMore PHistTells
def two : List S39 := [⟨3, false, 1, 0, 1⟩, ⟨5, true, 0, -1, 0⟩]
theorem two_wf : Wf two := by
  intro e he
  simp [two] at he
  rcases he with rfl | rfl <;> exact ⟨rfl, rfl⟩
theorem two_between : (keep41 4 9 two).length = 1 := by decide
theorem two_of : (grp key36 two (subLit false 1)).length = 1 := by decide +kernel
theorem hist_nil_ne {hb : Nat} : ∀ v : Value, v = .pointer (some ⟨hb, 0, none⟩) → v ≠ .pointer none := by
  rintro v rfl h
  cases h
set_option maxRecDepth 100000 in
set_option maxHeartbeats 2000000 in
theorem known_true (w : World) : Calls Try.prog 18 #[] w fun e w' => e = .returned (.bool true) ∧ Below w.heap.size w w' := by
  go_enter Try.func18, Try.ntmps18
  go_wp2_with fail
  refine (new8 w).mono ?_
  rintro e w1 ⟨hb, rfl, hH, hb1⟩
  have HH := Lib.hid hH
  have HB1 := Lib.hid hb1
  clear hH hb1
  go_upto_region 5 with fail
  obtain ⟨W2, hW2⟩ : ∃ W2, w1.alloc (.cells #[.int .i64 3, .bool false, .int .i64 1, .int .i64 0, .int .i64 1, .int .i64 5, .bool true, .int .i64 0, .int .i64 (-1), .int .i64 0] 39) = W2 := ⟨_, rfl⟩
  have hb2 : Below w1.heap.size w1 W2 := by rw [← hW2]; exact (Below.refl _ _).alloc (Nat.le_refl _) _
  have hR : Rd W2 (some ⟨w1.heap.size, 0, none⟩) two := .inr ⟨_, rfl, by rw [← hW2]; simp, fun j u hj => by
    rw [← hW2, cell_at (heap_alloc_new w1 _) j]
    simpa [two, evs, ev] using hj⟩
  have hA := hist_add w.heap.size hb [] _ (some ⟨w1.heap.size, 0, none⟩) 2 two W2 (HH.out.below hb2) hR (fun e => by cases e) (fun ad e _ hN => by
    injection e with e
    subst e
    have : w1.heap.size < w1.heap.size := hN.2
    omega) two_wf (by decide)
  have HB2 := Lib.hid (HB1.out.trans (hb2.mono HB1.out.size))
  rw [hW2]
  clear hb2 hR hW2
  refine hA.mono ?_
  rintro e w3 ⟨rfl, hH3, ht3⟩
  have HH3 := Lib.hid hH3
  have HB3 := Lib.hid (HB2.out.trans (ht3.below (fun i hi => hi.1) HB2.out.size))
  clear hA hH3 ht3
  go_wp2_with fail
  refine (hist_all _ _ _ _ w3 HH3.out (by decide)).mono ?_
  rintro e w4 ⟨v, rfl, ho, hb4⟩
  obtain ⟨a4, c4, e4, -, -, -⟩ := ho.shape
  rw [show (([] ++ two : List S39)).length = 2 from rfl] at e4
  subst e4
  have HH4 := Lib.hid (HH3.out.below hb4)
  have HB4 := Lib.hid (HB3.out.trans (hb4.mono HB3.out.size))
  clear ho hb4
  go_wp2_with fail
  refine (hist_between _ _ _ _ 4 9 w4 HH4.out (by decide)).mono ?_
  rintro e w5 ⟨v, rfl, ho, hb5⟩
  obtain ⟨a5, c5, e5, -, -, -⟩ := ho.shape
  rw [show (keep41 4 9 ([] ++ two)).length = 1 from two_between] at e5
  subst e5
  have HH5 := Lib.hid (HH4.out.below hb5)
  have HB5 := Lib.hid (HB4.out.trans (hb5.mono HB4.out.size))
  clear ho hb5
  go_wp2_with fail
  refine (hist_of _ _ _ _ false 1 w5 HH5.out (by decide) (by decide)).mono ?_
  rintro e w6 ⟨v, rfl, ho, hb6⟩
  obtain ⟨a6, c6, e6, -, -, -⟩ := ho.shape
  rw [show (grp key36 ([] ++ two) (subLit false 1)).length = 1 from two_of] at e6
  subst e6
  have HB6 := Lib.hid (HB5.out.trans (hb6.mono HB5.out.size))
  clear ho hb6
  go_wp2_with fail
  go_ret
  exact ⟨rfl, HB6.out⟩
end Go.Proofs.Ytaddhackggbdkaa
