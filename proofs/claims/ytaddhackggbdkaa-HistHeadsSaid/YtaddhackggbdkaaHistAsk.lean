/- Hist.All, Of, Inst, Between, walked; conditions: the history lies in the world, what is asked for is a number. -/
import Derived.Test.YtaddhackggbdkaaHistAdd
namespace Go.Proofs.Ytaddhackggbdkaa
open Go.RowKit Go.Maps Go.Proofs.YtaddhackggbdkaaW.PrintWords Go.Proofs.YtaddhackggbdkaaW.PrintLast Go.Proofs.YtaddhackggbdkaaW.PrintMore PHistTells
set_option maxRecDepth 100000 in
set_option maxHeartbeats 1000000 in
theorem hist_all (B hb : Nat) (l : List S39) (N : Nat → Prop) (w : World) (h : HistIn w B hb l N) (hl : l.length ≤ 1000) :
    Calls Try.prog 11 #[.pointer (some ⟨hb, 0, none⟩)] w fun e w' => ∃ v, e = .returned v ∧ Own w' w.heap.size v l ∧ Below w.heap.size w w' := by
  obtain ⟨lv, ib, jb, mb, nb, F, G, V, U, hH, hN, hNl⟩ := h
  obtain ⟨A, c, e, _, hrd, hz⟩ := hH.row.shape
  subst e
  have c0 := cell_of hH.hd 0
  have HR := Lib.hid hrd
  clear hH hN hNl hrd
  go_enter Try.func11, Try.ntmps11
  go_wp2_with fail
  refine (clone_calls A c l w HR.out hz hl).mono ?_
  rintro e w1 ⟨v, rfl, ho, hb1⟩
  have H1 := Lib.hid (And.intro ho hb1)
  clear ho hb1 c0
  go_wp2_with fail
  go_ret
  exact ⟨_, rfl, H1.out⟩
set_option maxRecDepth 100000 in
set_option maxHeartbeats 1000000 in
theorem hist_of (B hb : Nat) (l : List S39) (N : Nat → Prop) (b : Bool) (n : Int) (w : World) (h : HistIn w B hb l N) (hw : (Lit.int .i64 n).wf = true) (hl : l.length ≤ 1000) :
    Calls Try.prog 12 #[.pointer (some ⟨hb, 0, none⟩), .bool b, .int .i64 n] w fun e w' => ∃ v, e = .returned v ∧ Own w' w.heap.size v (grp key36 l (subLit b n)) ∧ Below w.heap.size w w' := by
  obtain ⟨lv, ib, jb, mb, nb, F, G, V, U, hH, hN, hNl⟩ := h
  have c1 := cell_of hH.hd 1
  have hg := get40 ib mb B _ F l V b n w hH.items hw hl
  clear hH hN hNl
  go_enter Try.func12, Try.ntmps12
  go_wp2_with fail
  refine hg.mono ?_
  rintro e w1 ⟨v, rfl, ho, hb1⟩
  have H1 := Lib.hid (And.intro ho hb1)
  clear ho hb1 c1 hg
  go_wp2_with fail
  go_ret
  exact ⟨_, rfl, H1.out⟩
set_option maxRecDepth 100000 in
set_option maxHeartbeats 1000000 in
theorem hist_inst (B hb : Nat) (l : List S39) (N : Nat → Prop) (n : Int) (w : World) (h : HistIn w B hb l N) (hw : (Lit.int .i64 n).wf = true) (hl : l.length ≤ 1000) :
    Calls Try.prog 14 #[.pointer (some ⟨hb, 0, none⟩), .int .i64 n] w fun e w' => ∃ v, e = .returned v ∧ Own w' w.heap.size v (grp key23 (plan l) (.int .i64 n)) ∧ Below w.heap.size w w' := by
  obtain ⟨lv, ib, jb, mb, nb, F, G, V, U, hH, hN, hNl⟩ := h
  have c1 := cell_of hH.hd 2
  have hg := get25 jb nb B _ G key23 (plan l) U n w hH.insts hw (Nat.le_trans (plan_len l) hl)
  clear hH hN hNl
  go_enter Try.func14, Try.ntmps14
  go_wp2_with fail
  refine hg.mono ?_
  rintro e w1 ⟨v, rfl, ho, hb1⟩
  have H1 := Lib.hid (And.intro ho hb1)
  clear ho hb1 c1 hg
  go_wp2_with fail
  go_ret
  exact ⟨_, rfl, H1.out⟩
/-- DeleteFunc of a row of the call's own, a nil one too. -/
theorem drop41 (frm til : Int) (pb qb : Nat) (v : Value) (p : List S39) (B : Nat) (w : World) (ho : Own w B v p) (hl : p.length ≤ 1000) (he : Env w frm til pb qb) (hpb : v.ownBlock ≠ some pb) (hqb : v.ownBlock ≠ some qb) :
    Calls Try.prog 37 #[v, .func (.func 41) #[] #[.pointer (some ⟨pb, 0, none⟩), .pointer (some ⟨qb, 0, none⟩)]] w fun e w' => ∃ v', e = .returned v' ∧ Own w' B v' (keep41 frm til p) ∧ Turn w w' (fun k => v.ownBlock = some k) := by
  rcases ho.2 with ⟨rfl, h0⟩ | ⟨g, cap, cur, rfl, hB, hh, h1, h2, h3, h4⟩
  · have hp0 : p = [] := List.length_eq_zero_iff.1 h0
    subst hp0
    have hi := index41 frm til pb qb none 0 [] w (Rd.nil _ _) (by simp) he
    clear ho h0 he hpb hqb
    go_enter Try.func37, Try.ntmps37
    go_wp2_with fail
    refine hi.mono ?_
    rintro e w1 ⟨i, rfl, hb, h⟩
    have HB := Lib.hid hb
    obtain rfl : i = -1 := by
      rcases h with ⟨rfl, _⟩ | ⟨k, _, hk, _⟩
      · rfl
      · simp at hk
    clear hb h hi
    go_wp2_with fail
    go_ret
    exact ⟨_, rfl, Own.nil _ _, Turn.of_below _ HB.out⟩
  · refine (delete41 frm til pb qb g cap p w (RowAt.of_own ho).1 hl he (fun e => hpb (by rw [e]; rfl)) (fun e => hqb (by rw [e]; rfl))).mono ?_
    rintro e w' ⟨rfl, hr, ht⟩
    exact ⟨_, rfl, hr.own hB, ht.more (fun i hi => by rw [hi]; rfl)⟩
set_option maxRecDepth 100000 in
set_option maxHeartbeats 1000000 in
theorem hist_between (B hb : Nat) (l : List S39) (N : Nat → Prop) (frm til : Int) (w : World) (h : HistIn w B hb l N) (hl : l.length ≤ 1000) :
    Calls Try.prog 16 #[.pointer (some ⟨hb, 0, none⟩), .int .i64 frm, .int .i64 til] w fun e w' => ∃ v, e = .returned v ∧ Own w' w.heap.size v (keep41 frm til l) ∧ Below w.heap.size w w' := by
  obtain ⟨W1, hW1⟩ : ∃ W1, (w.alloc (.cells #[.int .i64 frm] 3)).alloc (.cells #[.int .i64 til] 3) = W1 := ⟨_, rfl⟩
  have hb1 : Below w.heap.size w W1 := by rw [← hW1]; exact ((Below.refl _ _).alloc (Nat.le_refl _) _).alloc (by simp) _
  have HB1 := Lib.hid hb1
  have hs1 : W1.heap.size = w.heap.size + 2 := by rw [← hW1]; simp
  have HS1 := Lib.hid hs1
  have HE : Hid (Env W1 frm til w.heap.size (w.heap.size + 1)) := Lib.hid (by
    have h1 := heap_alloc_new w (.cells #[.int .i64 frm] 3)
    have h2 := heap_alloc_new (w.alloc (.cells #[.int .i64 frm] 3)) (.cells #[.int .i64 til] 3)
    have e1 : (w.alloc (.cells #[.int .i64 frm] 3)).heap.size = w.heap.size + 1 := by simp
    rw [e1, hW1] at h2
    refine ⟨?_, cell_of h2 0⟩
    rw [← hW1]
    exact cell_of ((Below.heap_alloc _ _ _ (by omega)).trans h1) 0)
  have HA := Lib.hid (hist_all B hb l N W1 (h.below hb1) hl)
  clear h hb1 hs1
  go_enter Try.func16, Try.ntmps16
  go_wp2_with fail
  refine HA.out.mono ?_
  rintro e w2 ⟨v, rfl, ho, hb2⟩
  have HO := Lib.hid ho
  have HB2 := Lib.hid hb2
  have HE2 := Lib.hid (HE.out.below hb2)
  clear ho hb2 hW1
  go_wp2_with fail
  have hne : ∀ q, q < W1.heap.size → v.ownBlock ≠ some q := fun q hq e => by
    have := (HO.out.lt e).1
    omega
  refine (drop41 frm til w.heap.size (w.heap.size + 1) v l W1.heap.size w2 HO.out hl HE2.out (hne _ (by have := HS1.out; omega)) (hne _ (by have := HS1.out; omega))).mono ?_
  rintro e w3 ⟨v', rfl, ho3, ht3⟩
  have H3 := Lib.hid (And.intro ho3 (HB2.out.trans (ht3.below (B := W1.heap.size) (fun i hi => (HO.out.lt hi).1) HB2.out.size)))
  clear ho3 ht3 hne
  go_wp2_with fail
  go_ret
  exact ⟨_, rfl, H3.out.1.weak HB1.out.size, HB1.out.trans (H3.out.2.mono HB1.out.size)⟩
end Go.Proofs.Ytaddhackggbdkaa
