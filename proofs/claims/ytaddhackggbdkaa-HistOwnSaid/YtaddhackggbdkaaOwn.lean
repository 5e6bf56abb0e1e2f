/- HistOwn answers true of whatever events; walked; conditions: they lie in the world, their numbers are numbers. -/
import Derived.Test.YtaddhackggbdkaaPlain
import Derived.Test.YtaddhackggbdkaaEvents
namespace Go.Proofs.Ytaddhackggbdkaa
open Go.RowKit Go.Maps Go.Proofs.YtaddhackggbdkaaW.PrintWords Go.Proofs.YtaddhackggbdkaaW.PrintLast Go.Proofs.YtaddhackggbdkaaW.PrintMore PHistTells
theorem nil9 (s : Value) (w : World) : Calls Try.prog 9 #[.pointer none, s] w fun e w' => e = .returned (.tuple #[]) ∧ w' = w := by
  go_enter Try.func9, Try.ntmps9
  go_wp2_with fail
  first | go_end0 | ((try simp only [Exit.inBlock, Exit.then]); refine bodyPost_ret (results_none rfl _ _ _) rfl ?_)
  exact ⟨rfl, rfl⟩
theorem nil23 (s : Value) (w : World) : Calls Try.prog 23 #[.pointer none, s] w fun e w' => e = .returned (.tuple #[]) ∧ w' = w := by
  go_enter Try.func23, Try.ntmps23
  go_wp2_with fail
  first | go_end0 | ((try simp only [Exit.inBlock, Exit.then]); refine bodyPost_ret (results_none rfl _ _ _) rfl ?_)
  exact ⟨rfl, rfl⟩
theorem nil11 (w : World) : Calls Try.prog 11 #[.pointer none] w fun e w' => e = .returned (.slice none 0 0) ∧ w' = w := by
  go_enter Try.func11, Try.ntmps11
  go_wp2_with fail
  go_ret
  exact ⟨rfl, rfl⟩
theorem nil12 (b : Bool) (n : Int) (w : World) : Calls Try.prog 12 #[.pointer none, .bool b, .int .i64 n] w fun e w' => e = .returned (.slice none 0 0) ∧ w' = w := by
  go_enter Try.func12, Try.ntmps12
  go_wp2_with fail
  go_ret
  exact ⟨rfl, rfl⟩
theorem nil14 (n : Int) (w : World) : Calls Try.prog 14 #[.pointer none, .int .i64 n] w fun e w' => e = .returned (.slice none 0 0) ∧ w' = w := by
  go_enter Try.func14, Try.ntmps14
  go_wp2_with fail
  go_ret
  exact ⟨rfl, rfl⟩
theorem nil27 (w : World) : Calls Try.prog 27 #[.pointer none] w fun e w' => e = .returned (.int .i64 0) ∧ w' = w := by
  go_enter Try.func27, Try.ntmps27
  go_wp2_with fail
  go_ret
  exact ⟨rfl, rfl⟩
theorem nil25 (n : Int) (w : World) : Calls Try.prog 25 #[.pointer none, .int .i64 n] w fun e w' => e = .returned (.slice none 0 0) ∧ w' = w := by
  go_enter Try.func25, Try.ntmps25
  go_wp2_with fail
  go_ret
  exact ⟨rfl, rfl⟩
set_option maxRecDepth 100000 in
set_option maxHeartbeats 1000000 in
theorem nil16 (frm til : Int) (w : World) : Calls Try.prog 16 #[.pointer none, .int .i64 frm, .int .i64 til] w fun e w' => ∃ a c, e = .returned (.slice a 0 c) ∧ Below w.heap.size w w' := by
  obtain ⟨W1, hW1⟩ : ∃ W1, (w.alloc (.cells #[.int .i64 frm] 3)).alloc (.cells #[.int .i64 til] 3) = W1 := ⟨_, rfl⟩
  have hb1 : Below w.heap.size w W1 := by rw [← hW1]; exact ((Below.refl _ _).alloc (Nat.le_refl _) _).alloc (by simp) _
  have HB1 := Lib.hid hb1
  have HE : Hid (Env W1 frm til w.heap.size (w.heap.size + 1)) := Lib.hid (by
    have h1 := heap_alloc_new w (.cells #[.int .i64 frm] 3)
    have h2 := heap_alloc_new (w.alloc (.cells #[.int .i64 frm] 3)) (.cells #[.int .i64 til] 3)
    have e1 : (w.alloc (.cells #[.int .i64 frm] 3)).heap.size = w.heap.size + 1 := by simp
    rw [e1, hW1] at h2
    refine ⟨?_, cell_of h2 0⟩
    rw [← hW1]
    exact cell_of ((Below.heap_alloc _ _ _ (by omega)).trans h1) 0)
  clear hb1
  go_enter Try.func16, Try.ntmps16
  go_wp2_with fail
  refine (nil11 W1).mono ?_
  rintro e w2 ⟨rfl, rfl⟩
  clear hW1
  go_wp2_with fail
  refine (drop41 frm til w.heap.size (w.heap.size + 1) (.slice none 0 0) [] w2.heap.size w2 (Own.nil _ _) (by simp) HE.out (by simp [Value.ownBlock]) (by simp [Value.ownBlock])).mono ?_
  rintro e w3 ⟨v', rfl, ho3, ht3⟩
  obtain ⟨a3, c3, e3, -, -, -⟩ := ho3.shape
  rw [show (keep41 frm til []).length = 0 from rfl] at e3
  subst e3
  have H3 := Lib.hid (HB1.out.trans ((ht3.below (B := w2.heap.size) (fun i hi => by simp [Value.ownBlock] at hi) (Nat.le_refl _)).mono HB1.out.size))
  clear ho3 ht3
  go_wp2_with fail
  go_ret
  exact ⟨_, _, rfl, H3.out⟩
theorem evs_head (x : S39) (l : List S39) : (evs (x :: l))[0]? = some (.int .i64 x.f0) := by simp [evs, ev]
/-- A row of some events is a block. -/
theorem Own.some {w : World} {B : Nat} {v : Value} {x : S39} {l : List S39} (h : Own w B v (x :: l)) : ∃ g cap cur, v = .slice (some ⟨g, 0, none⟩) (x :: l).length cap ∧ B ≤ g ∧ g < w.heap.size ∧ w.heap[g]? = some (.cells cur 39 (0, 0)) ∧ w.cell? ⟨g, 0, none⟩ = some (.int .i64 x.f0) ∧ (x :: l).length ≤ cap := by
  obtain ⟨A, c, e, hle, hrd, _⟩ := h.shape
  rcases h.2 with ⟨_, h0⟩ | ⟨g, cap, cur, rfl, h1, hh, h2, _⟩
  · simp at h0
  · injection e with e1 e2 e3
    subst e1 e3
    refine ⟨g, cap, cur, rfl, h1, (Array.getElem?_eq_some_iff.1 hh).1, hh, ?_, h2⟩
    rcases hrd with h | ⟨ad, e, _, hc⟩
    · cases h
    · injection e with e
      subst e
      have := hc 0 _ (evs_head x l)
      simpa [Addr.add] using this
theorem HistIn.lt {w : World} {B hb : Nat} {l : List S39} {N : Nat → Prop} (h : HistIn w B hb l N) : ∀ i, N i → i < w.heap.size := by
  obtain ⟨lv, ib, jb, mb, nb, F, G, V, U, _, _, h3⟩ := h
  exact fun i hi => (h3 i hi).2
set_option maxRecDepth 100000 in
set_option maxHeartbeats 4000000 in
theorem own_walk (A : Option Addr) (c : Nat) (l : List S39) (w : World) (h : Rd w A l) (hc : l.length ≤ c) (hz : A = none → c = 0) (hwf : Wf l) :
    Calls Try.prog 5 #[.slice A l.length c] w fun e w' => e = .returned (.bool true) ∧ Below w.heap.size w w' := by
  by_cases hl : l.length < 1 ∨ 100 < l.length
  · clear h hc hz hwf
    rcases hl with hl | hl
    · go_enter Try.func5, Try.ntmps5
      go_wp2_with fail
      go_ret
      exact ⟨rfl, Below.refl _ _⟩
    · have hl1 : ¬ l.length < 1 := by omega
      go_enter Try.func5, Try.ntmps5
      go_wp2_with fail
      go_ret
      exact ⟨rfl, Below.refl _ _⟩
  · have hl1 : 1 ≤ l.length := by omega
    have hl2 : l.length ≤ 100 := by omega
    obtain ⟨x, l', rfl⟩ : ∃ x l', l = x :: l' := by
      cases l with
      | nil => simp at hl1
      | cons x l' => exact ⟨x, l', rfl⟩
    obtain ⟨ad, rfl, halt⟩ : ∃ ad, A = some ad ∧ ad.block < w.heap.size := by
      rcases h with h | ⟨ad, e, h, _⟩
      · cases h
      · exact ⟨ad, e, h⟩
    have HR := Lib.hid h
    have HWF := Lib.hid hwf
    have hn1 : ¬ (x :: l').length < 1 := by omega
    have hn2 : ¬ 100 < (x :: l').length := by omega
    obtain ⟨n, hn⟩ : ∃ n, (x :: l').length = n := ⟨_, rfl⟩
    have HN := Lib.hid hn
    rw [hn] at hc hl1 hl2 hn1 hn2 ⊢
    clear h hwf hz hl hn
    go_enter Try.func5, Try.ntmps5
    go_wp2_with fail
    refine (new8 w).mono ?_
    rintro e w1 ⟨hb, rfl, hH, hb1⟩
    have HH1 := Lib.hid hH
    have HB1 := Lib.hid hb1
    have HR1 := Lib.hid (HR.out.below hb1)
    have HRA : Hid (Rd (w1.alloc (.cells #[] 39)) (some ad) (x :: l')) := Lib.hid (HR1.out.below ((Below.refl _ _).alloc (Nat.le_refl _) _))
    clear hH hb1
    go_upto_region 7 with (at_builtin; refine wpList_append_ev rfl _ _ rfl _ rfl (own_empty w1) (by rw [HN.out]; rfl) HRA.out (fun e => by cases e) (by have := HN.out; simp only [List.length_nil]; omega) (by simp) ?_; intro v' w2 ho hg hloc; have H2 := Lib.hid (And.intro ho (And.intro hg hloc)); clear ho hg hloc)
    have ho2 := H2.out.1
    rw [List.nil_append] at ho2
    obtain ⟨g, cap, cur, rfl, hgB, hglt, hgc, hg0, hgl⟩ := ho2.some
    have hb2 : Below w1.heap.size w1 w2 := Below.grown ((Below.refl _ _).alloc (Nat.le_refl _) _) H2.out.2.1 (by simp) (fun k hk => by
      have hk : some w1.heap.size = some k := hk
      injection hk with hk
      omega)
    rw [HN.out] at hgl ⊢
    have ho2' := ho2
    rw [HN.out] at ho2'
    have HO2 := Lib.hid ho2'
    have HG := Lib.hid (And.intro hgB (And.intro hglt (And.intro hgc hgl)))
    have HH2 := Lib.hid (HH1.out.below hb2)
    have HR2 := Lib.hid (HR1.out.below hb2)
    have HB2 := Lib.hid (HB1.out.trans (hb2.mono HB1.out.size))
    have hA := hist_add w.heap.size hb [] _ (some ⟨g, 0, none⟩) cap (x :: l') w2 HH2.out (by obtain ⟨A', c', e, _, hrd, _⟩ := ho2.shape; injection e with e1 e2 e3; rw [e1]; exact hrd) (fun e => by cases e) (fun ad' e _ hN => by
      injection e with e
      subst e
      have : g < w1.heap.size := hN.2
      omega) HWF.out (by have := HN.out; simp only [List.length_nil]; omega)
    rw [HN.out] at hA
    have HA := Lib.hid hA
    clear hA ho2 ho2' hgB hglt hgc hg0 hgl hb2 H2 HH1 HRA HR1
    go_wp2_with fail
    refine HA.out.mono ?_
    rintro e w3 ⟨rfl, hH3, ht3⟩
    rw [List.nil_append] at hH3
    have HH3 := Lib.hid hH3
    have hge3 : w3.heap[g]? = some (.cells cur 39 (0, 0)) := (ht3.block g HG.out.2.1 (fun hN => by
      have h1 : g < w1.heap.size := hN.2
      have := HG.out.1
      omega)).trans HG.out.2.2.1
    have HO3 : Hid (Own w3 w1.heap.size (.slice (some ⟨g, 0, none⟩) n cap) (x :: l')) := Lib.hid (HO2.out.same (fun q hq => by
      have hq : some g = some q := hq
      injection hq with hq
      subst hq
      exact hge3.trans HG.out.2.2.1.symm))
    have HB3 := Lib.hid (HB2.out.trans (ht3.below (B := w.heap.size) (fun i hi => hi.1) HB2.out.size))
    have hg0 : w3.cell? ⟨g, 0, none⟩ = some (.int .i64 x.f0) := by
      obtain ⟨g', cap', cur', e, _, _, _, h0, _⟩ := HO3.out.some
      injection e with e1 e2 e3
      injection e1 with e1
      injection e1 with e1 _ _
      subst e1
      exact h0
    have hgf := free_of hge3 0
    have hgl := HG.out.2.2.2
    have hn0 : 0 < n := by omega
    have HNN : Hid (¬ ((fun i => w.heap.size ≤ i ∧ i < w1.heap.size) g ∨ (w2.heap.size ≤ g ∧ g < w3.heap.size))) := Lib.hid (fun hc => by
      rcases hc with hc | hc
      · have h1 : g < w1.heap.size := hc.2
        have := HG.out.1
        omega
      · have := HG.out.2.1
        omega)
    clear hH3 ht3 HH2 HA HO2 hge3
    go_wp2_with fail
    obtain ⟨W4, hW4⟩ : ∃ W4, w3.setCell ⟨g, 0, none⟩ (.int .i64 (bits .xor .i64 x.f0 1)) = W4 := ⟨_, rfl⟩
    rw [hW4]
    have ht4 : Turn w3 W4 (fun i => i = g) := by rw [← hW4]; exact Turn.of_set _ _ _ rfl
    have HH4 := Lib.hid (HH3.out.turn ht4 (fun i hi => by rw [hi]; exact HNN.out))
    have hwg : w.heap.size ≤ g := Nat.le_trans HB1.out.size HG.out.1
    have hb4 : Below w.heap.size w W4 := HB3.out.trans (ht4.below (B := w.heap.size) (fun i hi => by rw [hi]; exact hwg) HB3.out.size)
    have HR4 : Hid (Rd W4 (some ad) (x :: l')) := Lib.hid (HR.out.mono hb4.size (fun ad' e _ => by
      injection e with e
      subst e
      exact hb4.block _ halt))
    have HB4 := Lib.hid hb4
    clear ht4 hwg hb4 hW4 hg0 hgf hgl HH3 HO3 HG HNN HB1 HB3 HB2 HR2
    have hln : (x :: l').length ≤ 1000 := by rw [HN.out]; omega
    have HLN := Lib.hid hln
    clear hln
    refine (hist_all _ _ _ _ W4 HH4.out HLN.out).mono ?_
    rintro e w5 ⟨v5, rfl, ho5, hb5⟩
    obtain ⟨g5, cap5, cur5, rfl, hg5B, hg5lt, hg5c, hg50, hg5l⟩ := ho5.some
    rw [HN.out] at hg5l ⊢
    have HO5 : Hid (Rd w5 (some ⟨g5, 0, none⟩) (x :: l')) := Lib.hid (by obtain ⟨A', c', e, _, hrd, _⟩ := ho5.shape; injection e with e1 e2 e3; rw [e1]; exact hrd)
    have HG5 := Lib.hid (And.intro hg5B (And.intro hg5lt (And.intro hg5c (And.intro hg50 hg5l))))
    have HH5 := Lib.hid (HH4.out.below hb5)
    have HR5 := Lib.hid (HR4.out.below hb5)
    have HB5 := Lib.hid (HB4.out.trans (hb5.mono HB4.out.size))
    have hs5 := same_calls (some ⟨g5, 0, none⟩) cap5 (some ad) c (x :: l') w5 HO5.out (by rw [HN.out]; exact hg5l) HR5.out (by rw [HN.out]; exact hc) HLN.out
    rw [HN.out] at hs5
    have HS5 := Lib.hid hs5
    have HX5 : Hid (¬ ((fun i => w.heap.size ≤ i ∧ i < w1.heap.size) g5 ∨ (w2.heap.size ≤ g5 ∧ g5 < w3.heap.size))) := Lib.hid (fun hc => absurd hg5B (by
      have h1 := HH4.out.lt g5 hc
      omega))
    have HB4s := Lib.hid HB4.out.size
    clear ho5 hg5B hg5lt hg5c hg50 hg5l hb5 hs5 HR4 HB4
    go_wp2_with fail
    refine HS5.out.mono ?_
    rintro e w6 ⟨rfl, hb6⟩
    have HH6 := Lib.hid (HH5.out.below hb6)
    have HR6 := Lib.hid (HR5.out.below hb6)
    have HB6 := Lib.hid (HB5.out.trans (hb6.mono HB5.out.size))
    have hgc6 := (hb6.block g5 HG5.out.2.1).trans HG5.out.2.2.1
    have hg0 := cell_below hb6 HG5.out.2.1 HG5.out.2.2.2.1
    have hgf := free_of hgc6 0
    have hgl := HG5.out.2.2.2.2
    clear hb6 HH5 HR5 HB5 HS5 hgc6
    go_wp2_with fail
    obtain ⟨W7, hW7⟩ : ∃ W7, w6.setCell ⟨g5, 0, none⟩ (.int .i64 (bits .xor .i64 x.f0 1)) = W7 := ⟨_, rfl⟩
    rw [hW7]
    have ht7 : Turn w6 W7 (fun i => i = g5) := by rw [← hW7]; exact Turn.of_set _ _ _ rfl
    have HH7 := Lib.hid (HH6.out.turn ht7 (fun i hi => by rw [hi]; exact HX5.out))
    have hw5 : w.heap.size ≤ g5 := Nat.le_trans HB4s.out HG5.out.1
    have hb7 : Below w.heap.size w W7 := HB6.out.trans (ht7.below (B := w.heap.size) (fun i hi => by rw [hi]; exact hw5) HB6.out.size)
    have HR7 : Hid (Rd W7 (some ad) (x :: l')) := Lib.hid (HR.out.mono hb7.size (fun ad' e _ => by
      injection e with e
      subst e
      exact hb7.block _ halt))
    have HB7 := Lib.hid hb7
    clear ht7 hw5 hb7 hW7 hg0 hgf hgl HH6 HG5 HO5 HX5 HB6 HR6
    refine (nil9 _ W7).mono ?_
    rintro e w8 ⟨rfl, rfl⟩
    go_wp2_with fail
    refine (nil23 _ w8).mono ?_
    rintro e w9 ⟨rfl, rfl⟩
    go_wp2_with fail
    refine (hist_all _ _ _ _ w9 HH7.out HLN.out).mono ?_
    rintro e w10 ⟨v10, rfl, ho10, hb10⟩
    obtain ⟨a10, c10, e10, hle10, hrd10, -⟩ := ho10.shape
    rw [HN.out] at e10 hle10
    subst e10
    have hs10 := same_calls a10 c10 (some ad) c (x :: l') w10 hrd10 (by rw [HN.out]; exact hle10) (HR7.out.below hb10) (by rw [HN.out]; exact hc) HLN.out
    rw [HN.out] at hs10
    have HS10 := Lib.hid hs10
    have HB10 := Lib.hid (HB7.out.trans (hb10.mono HB7.out.size))
    clear ho10 hle10 hrd10 hb10 hs10 HR7 HH7 HB7 HR
    go_wp2_with fail
    refine HS10.out.mono ?_
    rintro e w11 ⟨rfl, hb11⟩
    have HB11 := Lib.hid (HB10.out.trans (hb11.mono HB10.out.size))
    clear hb11 HS10 HB10
    go_wp2_with fail
    refine (nil11 w11).mono ?_
    rintro e w12 ⟨rfl, rfl⟩
    go_wp2_with fail
    refine (nil12 true 0 w12).mono ?_
    rintro e w13 ⟨rfl, rfl⟩
    go_wp2_with fail
    refine (nil14 0 w13).mono ?_
    rintro e w14 ⟨rfl, rfl⟩
    go_wp2_with fail
    refine (nil16 0 9 w14).mono ?_
    rintro e w15 ⟨a15, c15, rfl, hb15⟩
    have HB15 := Lib.hid (HB11.out.trans (hb15.mono HB11.out.size))
    clear hb15 HB11
    go_wp2_with fail
    refine (nil27 w15).mono ?_
    rintro e w16 ⟨rfl, rfl⟩
    go_wp2_with fail
    refine (nil25 0 w16).mono ?_
    rintro e w17 ⟨rfl, rfl⟩
    go_wp2_with fail
    refine (known_true w17).mono ?_
    rintro e w18 ⟨rfl, hb18⟩
    have HB18 := Lib.hid (HB15.out.trans (hb18.mono HB15.out.size))
    clear hb18 HB15
    go_wp2_with fail
    go_ret
    exact ⟨rfl, HB18.out⟩
end Go.Proofs.Ytaddhackggbdkaa
