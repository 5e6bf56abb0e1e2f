/- PostFirst, walked: it answers true whatever boxes have something; conditions: the list's cells lie in the world. -/
import Derived.Test.YtadcdnenecmbgaaTexts
namespace Go.Proofs.Ytadcdnenecmbgaa
open Go.Conc Go.RowKit

theorem info23 : (Try.prog.info? 23).map (fun i => (i.zero, i.size, i.bytes)) = some (some (.pointer none), 1, 8) := by kernel_rfl
/-- The boxes that were made: where they lie, and what lies in them. -/
def Boxes (h : Nat → Bool) (N k : Nat) (B C : Nat → Nat) (w : World) : Prop := ∀ i, i < k → N ≤ B i ∧ N ≤ C i ∧ BoxAt 56 w (B i) (C i) 1 (vals (if h i then [(i : Int) + 100] else []))
def ptrs (B : Nat → Nat) (k : Nat) : List Value := (List.range k).map fun i => .pointer (some ⟨B i, 0, none⟩)
/-- The first of k boxes that has something; -1: none. -/
def wantOf (h : Nat → Bool) : Nat → Int
  | 0 => -1
  | k + 1 => if wantOf h k < 0 ∧ h k = true then (k : Int) else wantOf h k
theorem want_spec (h : Nat → Bool) (k : Nat) : (wantOf h k = -1 ∧ ∀ i, i < k → h i = false) ∨ ∃ j, j < k ∧ wantOf h k = (j : Int) ∧ h j = true ∧ ∀ i, i < j → h i = false := by
  induction k with
  | zero => exact .inl ⟨rfl, fun i hi => absurd hi (Nat.not_lt_zero _)⟩
  | succ k ih =>
    rcases ih with ⟨e, hn⟩ | ⟨j, hj, e, ht, hn⟩
    · cases hk : h k with
      | true => exact .inr ⟨k, by omega, by simp [wantOf, e, hk], hk, hn⟩
      | false =>
        refine .inl ⟨by simp [wantOf, e, hk], fun i hi => ?_⟩
        rcases (show i < k ∨ i = k by omega) with h' | rfl
        · exact hn i h'
        · exact hk
    · have hnn : ¬ ((j : Int) < 0 ∧ h k = true) := by omega
      exact .inr ⟨j, by omega, by rw [wantOf, e, if_neg hnn], ht, hn⟩
theorem own_not_box {w : World} {base : Nat} {v : Value} {n : Nat} {xs : List Value} {b c cap : Nat} {L : List Value} (h : w.ownsRow base 23 1 v n xs) (hB : BoxAt 56 w b c cap L) : v.ownBlock ≠ some b ∧ v.ownBlock ≠ some c := by
  obtain ⟨_, hb, s, r, hc⟩ := hB
  rcases h.2 with ⟨rfl, _⟩ | ⟨g, cp, cur, rfl, _, hh, _⟩
  · exact ⟨by simp [Value.ownBlock], by simp [Value.ownBlock]⟩
  · constructor
    · intro e
      simp only [Value.ownBlock, Option.some.injEq] at e
      subst e
      rw [hh] at hb
      simp at hb
    · intro e
      simp only [Value.ownBlock, Option.some.injEq] at e
      subst e
      rw [hh] at hc
      simp at hc
/-- What a round does: a box more, at its place. -/
theorem boxes_step {h : Nat → Bool} {N k : Nat} {B C : Nat → Nat} {wr w2 w4 : World} {v v' : Value} {b c : Nat}
    (hown : wr.ownsRow N 23 1 v k (ptrs B k)) (hBs : Boxes h N k B C wr) (hN : N ≤ wr.heap.size) (hbn : wr.heap.size ≤ b) (hcn : wr.heap.size ≤ c)
    (hB2 : BoxAt 56 w2 b c 1 (vals (if h k then [(k : Int) + 100] else []))) (hg2 : wr.grownBy w2 none) (o : Obj) (hgr : (w2.alloc o).grownBy w4 v.ownBlock)
    (hown4 : w4.ownsRow N 23 1 v' (k + 1) (ptrs B k ++ [.pointer (some ⟨b, 0, none⟩)])) :
    ∃ B' C', w4.ownsRow N 23 1 v' (k + 1) (ptrs B' (k + 1)) ∧ Boxes h N (k + 1) B' C' w4 ∧ wr.grownBy w4 v.ownBlock := by
  have hlt : ∀ i, v.ownBlock = some i → i < wr.heap.size := fun i hi => (hown.lt i hi).2
  have hG : wr.grownBy w4 v.ownBlock := by
    have h1 : wr.grownBy (w2.alloc o) v.ownBlock := only_alloc ⟨hg2.os, hg2.tape, hg2.output, hg2.size, fun i hi _ => hg2.block i hi (by simp)⟩ o
    exact only_same h1 hgr
  refine ⟨fun i => if i = k then b else B i, fun i => if i = k then c else C i, ?_, ?_, hG⟩
  · have : ptrs (fun i => if i = k then b else B i) (k + 1) = ptrs B k ++ [.pointer (some ⟨b, 0, none⟩)] := by
      simp only [ptrs, List.range_succ, List.map_append, List.map_cons, List.map_nil, if_true]
      congr 1
      apply List.map_congr_left
      intro i hi
      have := List.mem_range.1 hi
      rw [if_neg (by omega)]
    rw [this]
    exact hown4
  · intro i hi
    rcases (show i < k ∨ i = k by omega) with h' | rfl
    · obtain ⟨h1, h2, h3⟩ := hBs i h'
      obtain ⟨n1, n2⟩ := own_not_box hown h3
      simp only [if_neg (show ¬ i = k by omega)]
      exact ⟨h1, h2, h3.grown hG n1 n2⟩
    · simp only [if_true]
      refine ⟨by omega, by omega, (hB2.alloc o).grown hgr (fun e => ?_) (fun e => ?_)⟩
      · have := hlt b e
        omega
      · have := hlt c e
        omega
theorem own_none {w w' : World} {base : Nat} {e : TypeId} {size : Nat} {v : Value} {n : Nat} {xs : List Value} (h : w.ownsRow base e size v n xs) (hg : w.grownBy w' none) : w'.ownsRow base e size v n xs := by
  refine ⟨h.1, ?_⟩
  rcases h.2 with hn | ⟨g, cap, cur, rfl, hb, hgg, rest⟩
  · exact .inl hn
  · exact .inr ⟨g, cap, cur, rfl, hb, by rw [hg.block g (Array.getElem?_eq_some_iff.1 hgg).1 (by simp)]; exact hgg, rest⟩
theorem grown_two (w : World) (o o' : Obj) : w.grownBy ((w.alloc o).alloc o') none := only_alloc (only_alloc (only_refl w none) o) o'

set_option maxHeartbeats 2000000 in
theorem firstlaw_walk (a : Option Addr) (len cap : Nat) (z : Nat → Bool) (w : World)
    (hc : ∀ i, i < len → (∃ ad, a = some ad ∧ ad.block < w.heap.size ∧ w.cell? (ad.add i) = some (.bool (z i)))) (hlen : len * 1 ≤ 140737488351232) :
    Calls Try.prog 5 #[.slice a len cap] w fun e w' => e = .returned (.bool true) ∧ Below w.heap.size w w' := by
  obtain ⟨i0, hi, hz0, hz1, hz2⟩ := info_parts info23
  have HC := Lib.hid hc
  clear hc
  by_cases h1 : 20 < len
  · go_enter Try.func5, Try.ntmps5
    go_wp2_with fail
    go_ret
    exact ⟨rfl, Below.refl _ _⟩
  · go_enter Try.func5, Try.ntmps5
    go_wp2_with fail
    go_loopg [3, 4, 5] len (fun g v wt i wr => ∃ (k : Nat) (B C : Nat → Nat), k ≤ len ∧ g + k = len ∧ i = .int .i64 k ∧ wt = .int .i64 (wantOf z k) ∧ wr.ownsRow w.heap.size 23 1 v k (ptrs B k) ∧ Boxes z w.heap.size k B C wr ∧ Below w.heap.size w wr)
    case atStart => exact ⟨0, fun _ => 0, fun _ => 0, Nat.zero_le _, rfl, rfl, rfl, World.ownsRow_nil _ _ _ _, fun i hi => absurd hi (Nat.not_lt_zero _), Below.refl _ _⟩
    case round =>
      obtain ⟨k, B, C, hk, hg, rfl, rfl, hown, hBs, hbr⟩ := hrel
      have HG := Lib.hid hg
      clear hg
      have hsz := hbr.size
      by_cases hlt : k < len
      · obtain ⟨ad, rfl, hb, hcell0⟩ := HC.out k hlt
        go_wp2_with fail
        refine (new_int 1 (by omega) _).mono ?_
        rintro e w1 ⟨rfl, rfl⟩
        have hB : BoxAt 56 ((wr.alloc (.chan 1 #[] false 0 0 false)).alloc (.cells #[.chan (some wr.heap.size)] 56)) (wr.heap.size + 1) wr.heap.size 1 (vals []) := boxAt_new wr 56 1
        have hG1 := grown_two wr (.chan 1 #[] false 0 0 false) (.cells #[.chan (some wr.heap.size)] 56)
        generalize (wr.alloc (.chan 1 #[] false 0 0 false)).alloc (.cells #[.chan (some wr.heap.size)] 56) = w1 at *
        have hb1 := below_only hbr hG1 (fun i e => by cases e) hsz
        have hcell := cell_below hb1 (by rw [add_block]; exact hb) hcell0
        clear hcell0
        obtain ⟨wt, hwt⟩ : ∃ wt, wantOf z k = wt := ⟨_, rfl⟩
        have HWT := Lib.hid hwt
        rw [hwt]
        clear hwt
        cases hz : z k with
        | true =>
          rw [hz] at hcell
          have HZ := Lib.hid hz
          clear hz
          go_wp2_with fail
          refine (put_yes _ _ _ [] _ _ hB (by simp)).mono ?_
          rintro e w2 ⟨rfl, hB2, hO2⟩
          have hb2 := below_only hb1 hO2.grown (fun i e => by injection e with e; omega) (Nat.le_trans hsz hG1.size)
          have hg2 : wr.grownBy w2 none := only_new hG1 hO2.grown (fun i e => by injection e with e; omega)
          have hB2' : BoxAt 56 w2 (wr.heap.size + 1) wr.heap.size 1 (vals (if z k then [(k : Int) + 100] else [])) := by rw [HZ.out]; exact hB2
          have HB2 := Lib.hid hB2'
          have HG2 := Lib.hid hg2
          have hown2 : w2.ownsRow w.heap.size 23 1 u3 k (ptrs B k) := own_none hown hg2
          have hsz2 := Lib.hid (Nat.le_trans hsz hg2.size)
          clear hO2 hB hG1 hg2 hB2 hB2' hb1 hb2 hcell
          by_cases hwn : wt < 0
          · have WANT : wantOf z (k + 1) = (k : Int) := by rw [wantOf, HWT.out, if_pos ⟨hwn, HZ.out⟩]
            have HW := Lib.hid WANT
            clear WANT
            go_wp2_with (at_builtin; refine wpList_append_own _ rfl _ _ 38 rfl w.heap.size 23 i0 (.pointer none) 1 8 Try.underlying38 hi hz0 hz1 hz2 rfl (by decide) _ _ _ rfl (hown2.alloc _) ⟨w2.heap.size, 0, none⟩ 1 1 [.pointer (some ⟨wr.heap.size + 1, 0, none⟩)] rfl rfl ?c1 ?c2 ?c3 ?c4 ?c5 ?_)
            case c1 =>
              intro j u hj
              match j, hj with
              | 0, hj => simp at hj; subst hj; simp [Addr.add]
            case c2 => intro u hu; simp at hu; subst hu; rfl
            case c3 => unfold maxLen; omega
            case c4 => omega
            case c5 => have := hsz2.out; simp; omega
            · intro v' w4 hown4 hgr4 _
              have hst := boxes_step hown hBs hsz (Nat.le_succ _) (Nat.le_refl _) HB2.out HG2.out _ hgr4 hown4
              have hne : ∀ i, u3.ownBlock = some i → w.heap.size ≤ i := fun i hi => (hown.lt i hi).1
              have HS := Lib.hid hst
              have HN := Lib.hid hne
              clear hst hne hown4 hgr4 hown2 hown hBs
              go_wp2_with fail
              go_roundg (len - (k + 1))
              case rel =>
                obtain ⟨B', C', q1, q2, q3⟩ := HS.out
                exact ⟨k + 1, B', C', by omega, by omega, by go_num, by rw [HW.out], q1, q2, below_only hbr q3 HN.out hsz⟩
              case measure => have := HG.out; omega
          · have WANT : wantOf z (k + 1) = wt := by rw [wantOf, HWT.out, if_neg (fun e => hwn e.1)]
            have HW := Lib.hid WANT
            clear WANT
            go_wp2_with (at_builtin; refine wpList_append_own _ rfl _ _ 38 rfl w.heap.size 23 i0 (.pointer none) 1 8 Try.underlying38 hi hz0 hz1 hz2 rfl (by decide) _ _ _ rfl (hown2.alloc _) ⟨w2.heap.size, 0, none⟩ 1 1 [.pointer (some ⟨wr.heap.size + 1, 0, none⟩)] rfl rfl ?c1 ?c2 ?c3 ?c4 ?c5 ?_)
            case c1 =>
              intro j u hj
              match j, hj with
              | 0, hj => simp at hj; subst hj; simp [Addr.add]
            case c2 => intro u hu; simp at hu; subst hu; rfl
            case c3 => unfold maxLen; omega
            case c4 => omega
            case c5 => have := hsz2.out; simp; omega
            · intro v' w4 hown4 hgr4 _
              have hst := boxes_step hown hBs hsz (Nat.le_succ _) (Nat.le_refl _) HB2.out HG2.out _ hgr4 hown4
              have hne : ∀ i, u3.ownBlock = some i → w.heap.size ≤ i := fun i hi => (hown.lt i hi).1
              have HS := Lib.hid hst
              have HN := Lib.hid hne
              clear hst hne hown4 hgr4 hown2 hown hBs
              go_wp2_with fail
              go_roundg (len - (k + 1))
              case rel =>
                obtain ⟨B', C', q1, q2, q3⟩ := HS.out
                exact ⟨k + 1, B', C', by omega, by omega, by go_num, by rw [HW.out], q1, q2, below_only hbr q3 HN.out hsz⟩
              case measure => have := HG.out; omega
        | false =>
          rw [hz] at hcell
          have HZ := Lib.hid hz
          clear hz
          have hB2' : BoxAt 56 w1 (wr.heap.size + 1) wr.heap.size 1 (vals (if z k then [(k : Int) + 100] else [])) := by rw [HZ.out]; exact hB
          have HB2 := Lib.hid hB2'
          have HG2 := Lib.hid hG1
          have hown2 : w1.ownsRow w.heap.size 23 1 u3 k (ptrs B k) := own_none hown hG1
          have hsz2 := Lib.hid (Nat.le_trans hsz hG1.size)
          have WANT : wantOf z (k + 1) = wt := by rw [wantOf, HWT.out, if_neg (fun e => by rw [HZ.out] at e; exact absurd e.2 (by simp))]
          have HW := Lib.hid WANT
          clear WANT hB hG1 hB2' hb1
          go_wp2_with (at_builtin; refine wpList_append_own _ rfl _ _ 38 rfl w.heap.size 23 i0 (.pointer none) 1 8 Try.underlying38 hi hz0 hz1 hz2 rfl (by decide) _ _ _ rfl (hown2.alloc _) ⟨w1.heap.size, 0, none⟩ 1 1 [.pointer (some ⟨wr.heap.size + 1, 0, none⟩)] rfl rfl ?c1 ?c2 ?c3 ?c4 ?c5 ?_)
          case c1 =>
            intro j u hj
            match j, hj with
            | 0, hj => simp at hj; subst hj; simp [Addr.add]
          case c2 => intro u hu; simp at hu; subst hu; rfl
          case c3 => unfold maxLen; omega
          case c4 => omega
          case c5 => have := hsz2.out; simp; omega
          · intro v' w4 hown4 hgr4 _
            have hst := boxes_step hown hBs hsz (Nat.le_succ _) (Nat.le_refl _) HB2.out HG2.out _ hgr4 hown4
            have hne : ∀ i, u3.ownBlock = some i → w.heap.size ≤ i := fun i hi => (hown.lt i hi).1
            have HS := Lib.hid hst
            have HN := Lib.hid hne
            clear hst hne hown4 hgr4 hown2 hown hBs
            go_wp2_with fail
            go_roundg (len - (k + 1))
            case rel =>
              obtain ⟨B', C', q1, q2, q3⟩ := HS.out
              exact ⟨k + 1, B', C', by omega, by omega, by go_num, by rw [HW.out], q1, q2, below_only hbr q3 HN.out hsz⟩
            case measure => have := HG.out; omega
      · obtain rfl : k = len := by omega
        obtain ⟨ao, cp, rfl⟩ := own_shape hown
        have HD := Lib.hid (own_cells hown)
        rcases want_spec z k with ⟨hw, hn⟩ | ⟨j, hj, hw, ht, hn⟩
        · have hf : ∀ i, i < k → ∃ ad p, ao = some ad ∧ wr.cell? (ad.add i) = some (.pointer p) ∧ Empty wr p := by
            intro i hik
            obtain ⟨ad, rfl, _, _, hcl⟩ := HD.out i hik
            obtain ⟨_, _, hBi⟩ := hBs i hik
            rw [hn i hik] at hBi
            refine ⟨ad, some ⟨B i, 0, none⟩, rfl, ?_, .inr ⟨B i, C i, 1, rfl, by simpa using hBi⟩⟩
            rw [hcl]
            simp [ptrs, hik]
          have HF := Lib.hid hf
          rw [hw]
          clear hf hown hBs hn hw
          go_wp2_with fail
          refine (first_none _ _ _ _ (by omega) HF.out).mono ?_
          rintro e w3 ⟨rfl, rfl⟩
          go_wp2_with fail
          refine (known_true _).mono ?_
          rintro e w4 ⟨rfl, hb4⟩
          have hb5 := hbr.trans (hb4.mono hbr.size)
          clear hbr hb4
          go_wp2_with fail
          go_ret
          exact ⟨rfl, hb5⟩
        · have hf : ∀ i, i < j → ∃ ad p, ao = some ad ∧ wr.cell? (ad.add i) = some (.pointer p) ∧ Empty wr p := by
            intro i hij
            obtain ⟨ad, rfl, _, _, hcl⟩ := HD.out i (by omega)
            obtain ⟨_, _, hBi⟩ := hBs i (by omega)
            rw [hn i hij] at hBi
            refine ⟨ad, some ⟨B i, 0, none⟩, rfl, ?_, .inr ⟨B i, C i, 1, rfl, by simpa using hBi⟩⟩
            rw [hcl]
            simp [ptrs, show i < k by omega]
          obtain ⟨ad, rfl, hadb, hadl, hcl⟩ := HD.out j hj
          have hclj : wr.cell? (ad.add j) = some (.pointer (some ⟨B j, 0, none⟩)) := by
            rw [hcl]
            simp [ptrs, hj]
          obtain ⟨hNB, hNC, hBj⟩ := hBs j hj
          rw [ht] at hBj
          have hBj' : BoxAt 56 wr (B j) (C j) 1 (vals [(j : Int) + 100]) := by simpa using hBj
          have HBj := Lib.hid hBj'
          have HF := Lib.hid hf
          have HN := Lib.hid (own_not_box hown hBj)
          have HO := Lib.hid hown
          rw [hw]
          clear hf hown hBs hn hw hcl ht hBj hBj'
          go_wp2_with fail
          refine (first_some _ _ _ _ (by omega) j hj (B j) (C j) 1 ((j : Int) + 100) [] HF.out ⟨ad, rfl, hclj⟩ HBj.out).mono ?_
          rintro e w3 ⟨rfl, hB3, hO3⟩
          have hcl3 : w3.cell? (ad.add j) = some (.pointer (some ⟨B j, 0, none⟩)) := by
            obtain ⟨ad', e', _, _, hcl'⟩ := own_cells (HO.out.kept hO3.grown (.inr HN.out.2)) j hj
            obtain rfl : ad = ad' := by injection e'
            rw [hcl']
            simp [ptrs, hj]
          have hb3 := below_only hbr hO3.grown (fun i e => by injection e with e; omega) hbr.size
          clear hclj hO3 hbr
          go_wp2_with fail
          refine (len_box _ _ _ [] _ hB3).mono ?_
          rintro e w4 ⟨rfl, rfl⟩
          go_wp2_with fail
          refine (known_true _).mono ?_
          rintro e w4 ⟨rfl, hb4⟩
          have hb5 := hb3.trans (hb4.mono hb3.size)
          clear hb3 hb4
          go_wp2_with fail
          go_ret
          exact ⟨rfl, hb5⟩
end Go.Proofs.Ytadcdnenecmbgaa
