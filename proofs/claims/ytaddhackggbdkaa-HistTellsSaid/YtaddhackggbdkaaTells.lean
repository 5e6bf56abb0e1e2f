/- HistTells answers true of whatever input; walked; conditions: the events lie in the world, their numbers are numbers. -/
import Derived.Test.YtaddhackggbdkaaPlain
import Derived.Laws.BitsLemmas
namespace Go.Proofs.Ytaddhackggbdkaa
open Go.RowKit Go.Maps Go.Proofs.YtaddhackggbdkaaW.PrintWords Go.Proofs.YtaddhackggbdkaaW.PrintLast Go.Proofs.YtaddhackggbdkaaW.PrintMore PHistTells
theorem i64_and1023 (n : Int) : bits .and .i64 n 1023 = n % 1024 := by
  have h1 : (BitVec.ofInt 64 1023).toNat = 2 ^ 10 - 1 := by decide
  have key : (BitVec.ofInt 64 n &&& BitVec.ofInt 64 1023).toNat = (n % ((2 ^ 64 : Nat) : Int)).toNat % 2 ^ 10 := by
    rw [BitVec.toNat_and, BitVec.toNat_ofInt, h1, Nat.and_two_pow_sub_one_eq_mod]
  show IntKind.i64.wrap ((BitVec.ofInt 64 n &&& BitVec.ofInt 64 1023).toNat : Nat) = n % 1024
  rw [key, IntKind.wrap_i64]
  omega
theorem Rd.take {w : World} {A : Option Addr} {l : List S39} (h : Rd w A l) (n : Nat) : Rd w A (l.take n) := by
  rcases h with rfl | ⟨ad, rfl, hlt, hc⟩
  · exact .inl (by simp)
  · refine .inr ⟨ad, rfl, hlt, fun j u hj => hc j u ?_⟩
    have e : evs l = evs (l.take n) ++ evs (l.drop n) := by rw [← evs_append, List.take_append_drop]
    rw [e, List.getElem?_append_left (List.getElem?_eq_some_iff.1 hj).1]
    exact hj
theorem Rd.drop {w : World} {ad : Addr} {l : List S39} (h : Rd w (some ad) l) (n : Nat) (hn : n ≤ l.length) : Rd w (some (ad.add (n * 5))) (l.drop n) := by
  rcases h with rfl | ⟨ad', e, hlt, hc⟩
  · exact .inl (by simp)
  · injection e with e
    subst e
    refine .inr ⟨_, rfl, by rw [add_block]; exact hlt, fun j u hj => ?_⟩
    have hl : (evs (l.take n)).length = n * 5 := by rw [evs_length, List.length_take]; congr 1; omega
    have := hc (n * 5 + j) u (by
      have e : evs l = evs (l.take n) ++ evs (l.drop n) := by rw [← evs_append, List.take_append_drop]
      rw [e, List.getElem?_append_right (by omega), hl, show n * 5 + j - n * 5 = j by omega]
      exact hj)
    rw [Go.Deep.add_add]
    exact this
set_option maxRecDepth 100000 in
set_option maxHeartbeats 4000000 in
theorem tells_walk (A : Option Addr) (c : Nat) (l : List S39) (k : Int) (f : Bool) (r n a b : Int) (w : World) (h : Rd w A l) (hc : l.length ≤ c) (hz : A = none → c = 0) (hwf : Wf l) (hr : (Lit.int .i64 r).wf = true) (hn : (Lit.int .i64 n).wf = true) :
    Calls Try.prog 3 #[.slice A l.length c, .int .i64 k, .bool f, .int .i64 r, .int .i64 n, .int .i64 a, .int .i64 b] w fun e w' => e = .returned (.bool true) ∧ Below w.heap.size w w' := by
  by_cases hl : 200 < l.length
  · clear h hc hz hwf hr hn
    go_enter Try.func3, Try.ntmps3
    go_wp2_with fail
    go_ret
    exact ⟨rfl, Below.refl _ _⟩
  · have HR := Lib.hid h
    have HWF := Lib.hid hwf
    clear h hwf
    by_cases he : l = []
    · subst he
      have hc : ([] : List S39).length ≤ c := hc
      cases A with
      | none =>
        obtain rfl := hz rfl
        go_enter Try.func3, Try.ntmps3
        go_wp2_with fail
        refine (new8 w).mono ?_
        rintro e w1 ⟨hb, rfl, hH, hb1⟩
        have HH := Lib.hid hH
        have HB1 := Lib.hid hb1
        clear hH hb1
        go_wp2_with fail
        refine (hist_add w.heap.size hb [] _ (none) 0 [] w1 HH.out (Rd.nil _ _) (fun e => by first | rfl | cases e) (fun ad' e h _ => absurd rfl h) (fun x hx => by simp at hx) (by simp)).mono ?_
        rintro e w2 ⟨rfl, hH2, ht2⟩
        have HH2 := Lib.hid hH2
        have HB2 := Lib.hid (HB1.out.trans (ht2.below (B := w.heap.size) (fun i hi => hi.1) HB1.out.size))
        clear hH2 ht2
        go_wp2_with fail
        refine (hist_add w.heap.size hb ([] ++ []) _ (none) 0 [] w2 HH2.out (Rd.nil _ _) (fun e => by first | rfl | cases e) (fun ad' e h _ => absurd rfl h) (fun x hx => by simp at hx) (by simp)).mono ?_
        rintro e w3 ⟨rfl, hH3, ht3⟩
        rw [show (([] : List S39) ++ [] ++ []) = [] from rfl] at hH3
        have HH3 := Lib.hid hH3
        have HR3 : Hid (Rd w3 (none) ([] : List S39)) := Lib.hid (Rd.nil _ _)
        have HB3 := Lib.hid (HB2.out.trans (ht3.below (B := w.heap.size) (fun i hi => by
          rcases hi with hi | hi
          · exact hi.1
          · have := HB1.out.size
            omega) HB2.out.size))
        clear hH3 ht3
        go_wp2_with fail
        refine (hist_all _ _ _ _ w3 HH3.out (by omega)).mono ?_
        rintro e w4 ⟨v3, rfl, ho3, hb3⟩
        obtain ⟨a3, c3, e3, hle3, hrd3, -⟩ := ho3.shape
        subst e3
        have HRD3 := Lib.hid hrd3
        have HH4 := Lib.hid (HH3.out.below hb3)
        have HR4 := Lib.hid (HR3.out.below hb3)
        have HB4 := Lib.hid (HB3.out.trans (hb3.mono HB3.out.size))
        clear ho3 hrd3 hb3 HH3 HR3 HB3
        go_wp2_with fail
        refine (same_calls a3 c3 (none) 0 [] w4 HRD3.out hle3 HR4.out hc (by omega)).mono ?_
        rintro e w5 ⟨rfl, hb4⟩
        have HH5 := Lib.hid (HH4.out.below hb4)
        have HR5 := Lib.hid (HR4.out.below hb4)
        have HB5 := Lib.hid (HB4.out.trans (hb4.mono HB4.out.size))
        clear hb4 HH4 HR4 HB4 HRD3 hle3
        go_wp2_with fail
        refine (hist_of _ _ _ _ f r w5 HH5.out hr (by omega)).mono ?_
        rintro e w6 ⟨v5, rfl, ho5, hb5⟩
        rw [grp_of (l := []) (fun x hx => by simp at hx) f r hr] at ho5
        obtain ⟨q5, hq5⟩ : ∃ q, ([] : List S39).filter (pOf f r) = q := ⟨_, rfl⟩
        rw [hq5] at ho5
        have hlq5 : q5.length ≤ 1000 := by rw [← hq5]; have := List.length_filter_le (pOf f r) []; simp
        obtain ⟨a5, c5, e5, hle5, hrd5, -⟩ := ho5.shape
        subst e5
        have HQ5 := Lib.hid hq5
        have HRD5 := Lib.hid hrd5
        have HH6 := Lib.hid (HH5.out.below hb5)
        have HR6 := Lib.hid (HR5.out.below hb5)
        have HB6 := Lib.hid (HB5.out.trans (hb5.mono HB5.out.size))
        clear ho5 hq5 hrd5 hb5 HH5 HR5 HB5
        go_wp2_with fail
        refine (of_calls (none) 0 [] f r w6 HR6.out hc (by omega)).mono ?_
        rintro e w7 ⟨u5, rfl, hg5, hb5⟩
        rw [HQ5.out] at hg5
        obtain ⟨b5, d5, e5, hld5, hsd5⟩ := hg5
        subst e5
        have HSD5 := Lib.hid hsd5
        have HRE5 := Lib.hid (HRD5.out.below hb5)
        have HH7 := Lib.hid (HH6.out.below hb5)
        have HR7 := Lib.hid (HR6.out.below hb5)
        have HB7 := Lib.hid (HB6.out.trans (hb5.mono HB6.out.size))
        clear hsd5 hb5 HH6 HR6 HB6 HRD5
        go_wp2_with fail
        refine (same_calls a5 c5 b5 d5 q5 w7 HRE5.out hle5 HSD5.out hld5 hlq5).mono ?_
        rintro e w8 ⟨rfl, hb5⟩
        have HH8 := Lib.hid (HH7.out.below hb5)
        have HR8 := Lib.hid (HR7.out.below hb5)
        have HB8 := Lib.hid (HB7.out.trans (hb5.mono HB7.out.size))
        clear hb5 HH7 HR7 HB7 HRE5 HSD5 HQ5 hle5 hld5 hlq5
        go_wp2_with fail
        refine (hist_inst _ _ _ _ n w8 HH8.out hn (by omega)).mono ?_
        rintro e w9 ⟨v8, rfl, ho8, hb8⟩
        rw [grp_inst [] n] at ho8
        obtain ⟨q8, hq8⟩ : ∃ q, ([] : List S39).filter (pInst n) = q := ⟨_, rfl⟩
        rw [hq8] at ho8
        have hlq8 : q8.length ≤ 1000 := by rw [← hq8]; have := List.length_filter_le (pInst n) []; simp
        obtain ⟨a8, c8, e8, hle8, hrd8, -⟩ := ho8.shape
        subst e8
        have HQ8 := Lib.hid hq8
        have HRD8 := Lib.hid hrd8
        have HH9 := Lib.hid (HH8.out.below hb8)
        have HR9 := Lib.hid (HR8.out.below hb8)
        have HB9 := Lib.hid (HB8.out.trans (hb8.mono HB8.out.size))
        clear ho8 hq8 hrd8 hb8 HH8 HR8 HB8
        go_wp2_with fail
        refine (inst_calls (none) 0 [] n w9 HR9.out hc (by omega)).mono ?_
        rintro e w10 ⟨u8, rfl, hg8, hb8⟩
        rw [HQ8.out] at hg8
        obtain ⟨b8, d8, e8, hld8, hsd8⟩ := hg8
        subst e8
        have HSD8 := Lib.hid hsd8
        have HRE8 := Lib.hid (HRD8.out.below hb8)
        have HH10 := Lib.hid (HH9.out.below hb8)
        have HR10 := Lib.hid (HR9.out.below hb8)
        have HB10 := Lib.hid (HB9.out.trans (hb8.mono HB9.out.size))
        clear hsd8 hb8 HH9 HR9 HB9 HRD8
        go_wp2_with fail
        refine (same_calls a8 c8 b8 d8 q8 w10 HRE8.out hle8 HSD8.out hld8 hlq8).mono ?_
        rintro e w11 ⟨rfl, hb8⟩
        have HH11 := Lib.hid (HH10.out.below hb8)
        have HR11 := Lib.hid (HR10.out.below hb8)
        have HB11 := Lib.hid (HB10.out.trans (hb8.mono HB10.out.size))
        clear hb8 HH10 HR10 HB10 HRE8 HSD8 HQ8 hle8 hld8 hlq8
        go_wp2_with fail
        refine (hist_between _ _ _ _ a b w11 HH11.out (by omega)).mono ?_
        rintro e w12 ⟨v11, rfl, ho11, hb11⟩
        rw [keep_bet [] a b] at ho11
        obtain ⟨q11, hq11⟩ : ∃ q, ([] : List S39).filter (pBet a b) = q := ⟨_, rfl⟩
        rw [hq11] at ho11
        have hlq11 : q11.length ≤ 1000 := by rw [← hq11]; have := List.length_filter_le (pBet a b) []; simp
        obtain ⟨a11, c11, e11, hle11, hrd11, -⟩ := ho11.shape
        subst e11
        have HQ11 := Lib.hid hq11
        have HRD11 := Lib.hid hrd11
        have HH12 := Lib.hid (HH11.out.below hb11)
        have HR12 := Lib.hid (HR11.out.below hb11)
        have HB12 := Lib.hid (HB11.out.trans (hb11.mono HB11.out.size))
        clear ho11 hq11 hrd11 hb11 HH11 HR11 HB11
        go_wp2_with fail
        refine (between_calls (none) 0 [] a b w12 HR12.out hc (by omega)).mono ?_
        rintro e w13 ⟨u11, rfl, hg11, hb11⟩
        rw [HQ11.out] at hg11
        obtain ⟨b11, d11, e11, hld11, hsd11⟩ := hg11
        subst e11
        have HSD11 := Lib.hid hsd11
        have HRE11 := Lib.hid (HRD11.out.below hb11)
        have HH13 := Lib.hid (HH12.out.below hb11)
        have HR13 := Lib.hid (HR12.out.below hb11)
        have HB13 := Lib.hid (HB12.out.trans (hb11.mono HB12.out.size))
        clear hsd11 hb11 HH12 HR12 HB12 HRD11
        go_wp2_with fail
        refine (same_calls a11 c11 b11 d11 q11 w13 HRE11.out hle11 HSD11.out hld11 hlq11).mono ?_
        rintro e w14 ⟨rfl, hb11⟩
        have HH14 := Lib.hid (HH13.out.below hb11)
        have HR14 := Lib.hid (HR13.out.below hb11)
        have HB14 := Lib.hid (HB13.out.trans (hb11.mono HB13.out.size))
        clear hb11 HH13 HR13 HB13 HRE11 HSD11 HQ11 hle11 hld11 hlq11
        go_wp2_with fail
        refine (known_true w14).mono ?_
        rintro e w15 ⟨rfl, hb14⟩
        have HB15 := Lib.hid (HB14.out.trans (hb14.mono HB14.out.size))
        clear hb14
        go_wp2_with fail
        go_ret
        exact ⟨rfl, HB15.out⟩
      | some ad =>
        clear hz
        go_enter Try.func3, Try.ntmps3
        go_wp2_with fail
        refine (new8 w).mono ?_
        rintro e w1 ⟨hb, rfl, hH, hb1⟩
        have HH := Lib.hid hH
        have HB1 := Lib.hid hb1
        clear hH hb1
        go_wp2_with fail
        refine (hist_add w.heap.size hb [] _ (some ad) c [] w1 HH.out (Rd.nil _ _) (fun e => by first | rfl | cases e) (fun ad' e h _ => absurd rfl h) (fun x hx => by simp at hx) (by simp)).mono ?_
        rintro e w2 ⟨rfl, hH2, ht2⟩
        have HH2 := Lib.hid hH2
        have HB2 := Lib.hid (HB1.out.trans (ht2.below (B := w.heap.size) (fun i hi => hi.1) HB1.out.size))
        clear hH2 ht2
        go_wp2_with fail
        refine (hist_add w.heap.size hb ([] ++ []) _ (some ad) c [] w2 HH2.out (Rd.nil _ _) (fun e => by first | rfl | cases e) (fun ad' e h _ => absurd rfl h) (fun x hx => by simp at hx) (by simp)).mono ?_
        rintro e w3 ⟨rfl, hH3, ht3⟩
        rw [show (([] : List S39) ++ [] ++ []) = [] from rfl] at hH3
        have HH3 := Lib.hid hH3
        have HR3 : Hid (Rd w3 (some ad) ([] : List S39)) := Lib.hid (Rd.nil _ _)
        have HB3 := Lib.hid (HB2.out.trans (ht3.below (B := w.heap.size) (fun i hi => by
          rcases hi with hi | hi
          · exact hi.1
          · have := HB1.out.size
            omega) HB2.out.size))
        clear hH3 ht3
        go_wp2_with fail
        refine (hist_all _ _ _ _ w3 HH3.out (by omega)).mono ?_
        rintro e w4 ⟨v3, rfl, ho3, hb3⟩
        obtain ⟨a3, c3, e3, hle3, hrd3, -⟩ := ho3.shape
        subst e3
        have HRD3 := Lib.hid hrd3
        have HH4 := Lib.hid (HH3.out.below hb3)
        have HR4 := Lib.hid (HR3.out.below hb3)
        have HB4 := Lib.hid (HB3.out.trans (hb3.mono HB3.out.size))
        clear ho3 hrd3 hb3 HH3 HR3 HB3
        go_wp2_with fail
        refine (same_calls a3 c3 (some ad) c [] w4 HRD3.out hle3 HR4.out hc (by omega)).mono ?_
        rintro e w5 ⟨rfl, hb4⟩
        have HH5 := Lib.hid (HH4.out.below hb4)
        have HR5 := Lib.hid (HR4.out.below hb4)
        have HB5 := Lib.hid (HB4.out.trans (hb4.mono HB4.out.size))
        clear hb4 HH4 HR4 HB4 HRD3 hle3
        go_wp2_with fail
        refine (hist_of _ _ _ _ f r w5 HH5.out hr (by omega)).mono ?_
        rintro e w6 ⟨v5, rfl, ho5, hb5⟩
        rw [grp_of (l := []) (fun x hx => by simp at hx) f r hr] at ho5
        obtain ⟨q5, hq5⟩ : ∃ q, ([] : List S39).filter (pOf f r) = q := ⟨_, rfl⟩
        rw [hq5] at ho5
        have hlq5 : q5.length ≤ 1000 := by rw [← hq5]; have := List.length_filter_le (pOf f r) []; simp
        obtain ⟨a5, c5, e5, hle5, hrd5, -⟩ := ho5.shape
        subst e5
        have HQ5 := Lib.hid hq5
        have HRD5 := Lib.hid hrd5
        have HH6 := Lib.hid (HH5.out.below hb5)
        have HR6 := Lib.hid (HR5.out.below hb5)
        have HB6 := Lib.hid (HB5.out.trans (hb5.mono HB5.out.size))
        clear ho5 hq5 hrd5 hb5 HH5 HR5 HB5
        go_wp2_with fail
        refine (of_calls (some ad) c [] f r w6 HR6.out hc (by omega)).mono ?_
        rintro e w7 ⟨u5, rfl, hg5, hb5⟩
        rw [HQ5.out] at hg5
        obtain ⟨b5, d5, e5, hld5, hsd5⟩ := hg5
        subst e5
        have HSD5 := Lib.hid hsd5
        have HRE5 := Lib.hid (HRD5.out.below hb5)
        have HH7 := Lib.hid (HH6.out.below hb5)
        have HR7 := Lib.hid (HR6.out.below hb5)
        have HB7 := Lib.hid (HB6.out.trans (hb5.mono HB6.out.size))
        clear hsd5 hb5 HH6 HR6 HB6 HRD5
        go_wp2_with fail
        refine (same_calls a5 c5 b5 d5 q5 w7 HRE5.out hle5 HSD5.out hld5 hlq5).mono ?_
        rintro e w8 ⟨rfl, hb5⟩
        have HH8 := Lib.hid (HH7.out.below hb5)
        have HR8 := Lib.hid (HR7.out.below hb5)
        have HB8 := Lib.hid (HB7.out.trans (hb5.mono HB7.out.size))
        clear hb5 HH7 HR7 HB7 HRE5 HSD5 HQ5 hle5 hld5 hlq5
        go_wp2_with fail
        refine (hist_inst _ _ _ _ n w8 HH8.out hn (by omega)).mono ?_
        rintro e w9 ⟨v8, rfl, ho8, hb8⟩
        rw [grp_inst [] n] at ho8
        obtain ⟨q8, hq8⟩ : ∃ q, ([] : List S39).filter (pInst n) = q := ⟨_, rfl⟩
        rw [hq8] at ho8
        have hlq8 : q8.length ≤ 1000 := by rw [← hq8]; have := List.length_filter_le (pInst n) []; simp
        obtain ⟨a8, c8, e8, hle8, hrd8, -⟩ := ho8.shape
        subst e8
        have HQ8 := Lib.hid hq8
        have HRD8 := Lib.hid hrd8
        have HH9 := Lib.hid (HH8.out.below hb8)
        have HR9 := Lib.hid (HR8.out.below hb8)
        have HB9 := Lib.hid (HB8.out.trans (hb8.mono HB8.out.size))
        clear ho8 hq8 hrd8 hb8 HH8 HR8 HB8
        go_wp2_with fail
        refine (inst_calls (some ad) c [] n w9 HR9.out hc (by omega)).mono ?_
        rintro e w10 ⟨u8, rfl, hg8, hb8⟩
        rw [HQ8.out] at hg8
        obtain ⟨b8, d8, e8, hld8, hsd8⟩ := hg8
        subst e8
        have HSD8 := Lib.hid hsd8
        have HRE8 := Lib.hid (HRD8.out.below hb8)
        have HH10 := Lib.hid (HH9.out.below hb8)
        have HR10 := Lib.hid (HR9.out.below hb8)
        have HB10 := Lib.hid (HB9.out.trans (hb8.mono HB9.out.size))
        clear hsd8 hb8 HH9 HR9 HB9 HRD8
        go_wp2_with fail
        refine (same_calls a8 c8 b8 d8 q8 w10 HRE8.out hle8 HSD8.out hld8 hlq8).mono ?_
        rintro e w11 ⟨rfl, hb8⟩
        have HH11 := Lib.hid (HH10.out.below hb8)
        have HR11 := Lib.hid (HR10.out.below hb8)
        have HB11 := Lib.hid (HB10.out.trans (hb8.mono HB10.out.size))
        clear hb8 HH10 HR10 HB10 HRE8 HSD8 HQ8 hle8 hld8 hlq8
        go_wp2_with fail
        refine (hist_between _ _ _ _ a b w11 HH11.out (by omega)).mono ?_
        rintro e w12 ⟨v11, rfl, ho11, hb11⟩
        rw [keep_bet [] a b] at ho11
        obtain ⟨q11, hq11⟩ : ∃ q, ([] : List S39).filter (pBet a b) = q := ⟨_, rfl⟩
        rw [hq11] at ho11
        have hlq11 : q11.length ≤ 1000 := by rw [← hq11]; have := List.length_filter_le (pBet a b) []; simp
        obtain ⟨a11, c11, e11, hle11, hrd11, -⟩ := ho11.shape
        subst e11
        have HQ11 := Lib.hid hq11
        have HRD11 := Lib.hid hrd11
        have HH12 := Lib.hid (HH11.out.below hb11)
        have HR12 := Lib.hid (HR11.out.below hb11)
        have HB12 := Lib.hid (HB11.out.trans (hb11.mono HB11.out.size))
        clear ho11 hq11 hrd11 hb11 HH11 HR11 HB11
        go_wp2_with fail
        refine (between_calls (some ad) c [] a b w12 HR12.out hc (by omega)).mono ?_
        rintro e w13 ⟨u11, rfl, hg11, hb11⟩
        rw [HQ11.out] at hg11
        obtain ⟨b11, d11, e11, hld11, hsd11⟩ := hg11
        subst e11
        have HSD11 := Lib.hid hsd11
        have HRE11 := Lib.hid (HRD11.out.below hb11)
        have HH13 := Lib.hid (HH12.out.below hb11)
        have HR13 := Lib.hid (HR12.out.below hb11)
        have HB13 := Lib.hid (HB12.out.trans (hb11.mono HB12.out.size))
        clear hsd11 hb11 HH12 HR12 HB12 HRD11
        go_wp2_with fail
        refine (same_calls a11 c11 b11 d11 q11 w13 HRE11.out hle11 HSD11.out hld11 hlq11).mono ?_
        rintro e w14 ⟨rfl, hb11⟩
        have HH14 := Lib.hid (HH13.out.below hb11)
        have HR14 := Lib.hid (HR13.out.below hb11)
        have HB14 := Lib.hid (HB13.out.trans (hb11.mono HB13.out.size))
        clear hb11 HH13 HR13 HB13 HRE11 HSD11 HQ11 hle11 hld11 hlq11
        go_wp2_with fail
        refine (known_true w14).mono ?_
        rintro e w15 ⟨rfl, hb14⟩
        have HB15 := Lib.hid (HB14.out.trans (hb14.mono HB14.out.size))
        clear hb14
        go_wp2_with fail
        go_ret
        exact ⟨rfl, HB15.out⟩
    · have h0 : 0 < l.length := List.length_pos_iff.2 he
      obtain ⟨ad, rfl, halt⟩ : ∃ ad, A = some ad ∧ ad.block < w.heap.size := by
        rcases HR.out with h | ⟨ad, e, h, _⟩
        · exact absurd h he
        · exact ⟨ad, e, h⟩
      clear he hz
      obtain ⟨m, hm, hmn⟩ : ∃ m : Nat, (bits .and .i64 k 1023).tmod (l.length : Int) = m ∧ m < l.length := by
        rw [i64_and1023]
        have h1 := Int.tmod_nonneg (l.length : Int) (show 0 ≤ k % 1024 by omega)
        have h2 := Int.tmod_lt_of_pos (k % 1024) (show 0 < (l.length : Int) by omega)
        exact ⟨((k % 1024).tmod l.length).toNat, by omega, by omega⟩
      go_enter Try.func3, Try.ntmps3
      go_wp2_with fail
      refine (new8 w).mono ?_
      rintro e w1 ⟨hb, rfl, hH, hb1⟩
      have HH := Lib.hid hH
      have HB1 := Lib.hid hb1
      have HR1 := Lib.hid (HR.out.below hb1)
      clear hH hb1
      have hlm : (l.take m).length = m := by rw [List.length_take]; omega
      have hld : (l.drop m).length = l.length - m := List.length_drop
      have hA1 := hist_add w.heap.size hb [] _ (some ad) c (l.take m) w1 HH.out (HR1.out.take m) (fun e => by cases e) (fun ad' e _ hN => by
        injection e with e
        subst e
        have : w.heap.size ≤ ad.block := hN.1
        omega) (fun x hx => HWF.out x (List.mem_of_mem_take hx)) (by simp; omega)
      rw [hlm] at hA1
      have HA1 := Lib.hid hA1
      clear hA1
      go_wp2_with fail
      refine HA1.out.mono ?_
      rintro e w2 ⟨rfl, hH2, ht2⟩
      have HH2 := Lib.hid hH2
      have hb2 := ht2.below (fun i hi => hi.1) HB1.out.size
      have HR2 : Hid (Rd w2 (some ad) l) := Lib.hid (HR.out.mono (Nat.le_trans HB1.out.size hb2.size) (fun ad' e _ => by
        injection e with e
        subst e
        exact (hb2.block _ halt).trans (HB1.out.block _ halt)))
      have HB2 := Lib.hid (HB1.out.trans hb2)
      have hA2 := hist_add w.heap.size hb ([] ++ l.take m) _ (some (ad.add (m * 5))) (c - m) (l.drop m) w2 HH2.out (HR2.out.drop m (by omega)) (fun e => by cases e) (fun ad' e _ hN => by
        injection e with e
        subst e
        rw [add_block] at hN
        rcases hN with hN | hN
        · have : w.heap.size ≤ ad.block := hN.1
          omega
        · have := HB1.out.size
          omega) (fun x hx => HWF.out x (List.mem_of_mem_drop hx)) (by simp; omega)
      rw [hld] at hA2
      have HA2 := Lib.hid hA2
      clear hA2 hH2 ht2 hb2 HH
      have hcm : ¬ c = m := by omega
      go_wp2_with fail
      refine HA2.out.mono ?_
      rintro e w3 ⟨rfl, hH3, ht3⟩
      rw [List.nil_append, List.take_append_drop] at hH3
      have HH3 := Lib.hid hH3
      have hb3 := ht3.below (B := w.heap.size) (fun i hi => by
        rcases hi with hi | hi
        · exact hi.1
        · have := HB1.out.size
          omega) HB2.out.size
      have HR3 : Hid (Rd w3 (some ad) l) := Lib.hid (HR2.out.mono hb3.size (fun ad' e _ => by
        injection e with e
        subst e
        exact hb3.block _ halt))
      have HB3 := Lib.hid (HB2.out.trans hb3)
      clear hH3 ht3 hb3 HH2 HR2 HB2 HA1 HA2 HB1 HR1 hlm hld hcm hm
      go_wp2_with fail
      refine (hist_all _ _ _ _ w3 HH3.out (by omega)).mono ?_
      rintro e w4 ⟨v3, rfl, ho3, hb3⟩
      obtain ⟨a3, c3, e3, hle3, hrd3, -⟩ := ho3.shape
      subst e3
      have HRD3 := Lib.hid hrd3
      have HH4 := Lib.hid (HH3.out.below hb3)
      have HR4 := Lib.hid (HR3.out.below hb3)
      have HB4 := Lib.hid (HB3.out.trans (hb3.mono HB3.out.size))
      clear ho3 hrd3 hb3 HH3 HR3 HB3
      go_wp2_with fail
      refine (same_calls a3 c3 (some ad) c l w4 HRD3.out hle3 HR4.out hc (by omega)).mono ?_
      rintro e w5 ⟨rfl, hb4⟩
      have HH5 := Lib.hid (HH4.out.below hb4)
      have HR5 := Lib.hid (HR4.out.below hb4)
      have HB5 := Lib.hid (HB4.out.trans (hb4.mono HB4.out.size))
      clear hb4 HH4 HR4 HB4 HRD3 hle3
      go_wp2_with fail
      refine (hist_of _ _ _ _ f r w5 HH5.out hr (by omega)).mono ?_
      rintro e w6 ⟨v5, rfl, ho5, hb5⟩
      rw [grp_of HWF.out f r hr] at ho5
      obtain ⟨q5, hq5⟩ : ∃ q, l.filter (pOf f r) = q := ⟨_, rfl⟩
      rw [hq5] at ho5
      have hlq5 : q5.length ≤ 1000 := by rw [← hq5]; have := List.length_filter_le (pOf f r) l; omega
      obtain ⟨a5, c5, e5, hle5, hrd5, -⟩ := ho5.shape
      subst e5
      have HQ5 := Lib.hid hq5
      have HRD5 := Lib.hid hrd5
      have HH6 := Lib.hid (HH5.out.below hb5)
      have HR6 := Lib.hid (HR5.out.below hb5)
      have HB6 := Lib.hid (HB5.out.trans (hb5.mono HB5.out.size))
      clear ho5 hq5 hrd5 hb5 HH5 HR5 HB5
      go_wp2_with fail
      refine (of_calls (some ad) c l f r w6 HR6.out hc (by omega)).mono ?_
      rintro e w7 ⟨u5, rfl, hg5, hb5⟩
      rw [HQ5.out] at hg5
      obtain ⟨b5, d5, e5, hld5, hsd5⟩ := hg5
      subst e5
      have HSD5 := Lib.hid hsd5
      have HRE5 := Lib.hid (HRD5.out.below hb5)
      have HH7 := Lib.hid (HH6.out.below hb5)
      have HR7 := Lib.hid (HR6.out.below hb5)
      have HB7 := Lib.hid (HB6.out.trans (hb5.mono HB6.out.size))
      clear hsd5 hb5 HH6 HR6 HB6 HRD5
      go_wp2_with fail
      refine (same_calls a5 c5 b5 d5 q5 w7 HRE5.out hle5 HSD5.out hld5 hlq5).mono ?_
      rintro e w8 ⟨rfl, hb5⟩
      have HH8 := Lib.hid (HH7.out.below hb5)
      have HR8 := Lib.hid (HR7.out.below hb5)
      have HB8 := Lib.hid (HB7.out.trans (hb5.mono HB7.out.size))
      clear hb5 HH7 HR7 HB7 HRE5 HSD5 HQ5 hle5 hld5 hlq5
      go_wp2_with fail
      refine (hist_inst _ _ _ _ n w8 HH8.out hn (by omega)).mono ?_
      rintro e w9 ⟨v8, rfl, ho8, hb8⟩
      rw [grp_inst l n] at ho8
      obtain ⟨q8, hq8⟩ : ∃ q, l.filter (pInst n) = q := ⟨_, rfl⟩
      rw [hq8] at ho8
      have hlq8 : q8.length ≤ 1000 := by rw [← hq8]; have := List.length_filter_le (pInst n) l; omega
      obtain ⟨a8, c8, e8, hle8, hrd8, -⟩ := ho8.shape
      subst e8
      have HQ8 := Lib.hid hq8
      have HRD8 := Lib.hid hrd8
      have HH9 := Lib.hid (HH8.out.below hb8)
      have HR9 := Lib.hid (HR8.out.below hb8)
      have HB9 := Lib.hid (HB8.out.trans (hb8.mono HB8.out.size))
      clear ho8 hq8 hrd8 hb8 HH8 HR8 HB8
      go_wp2_with fail
      refine (inst_calls (some ad) c l n w9 HR9.out hc (by omega)).mono ?_
      rintro e w10 ⟨u8, rfl, hg8, hb8⟩
      rw [HQ8.out] at hg8
      obtain ⟨b8, d8, e8, hld8, hsd8⟩ := hg8
      subst e8
      have HSD8 := Lib.hid hsd8
      have HRE8 := Lib.hid (HRD8.out.below hb8)
      have HH10 := Lib.hid (HH9.out.below hb8)
      have HR10 := Lib.hid (HR9.out.below hb8)
      have HB10 := Lib.hid (HB9.out.trans (hb8.mono HB9.out.size))
      clear hsd8 hb8 HH9 HR9 HB9 HRD8
      go_wp2_with fail
      refine (same_calls a8 c8 b8 d8 q8 w10 HRE8.out hle8 HSD8.out hld8 hlq8).mono ?_
      rintro e w11 ⟨rfl, hb8⟩
      have HH11 := Lib.hid (HH10.out.below hb8)
      have HR11 := Lib.hid (HR10.out.below hb8)
      have HB11 := Lib.hid (HB10.out.trans (hb8.mono HB10.out.size))
      clear hb8 HH10 HR10 HB10 HRE8 HSD8 HQ8 hle8 hld8 hlq8
      go_wp2_with fail
      refine (hist_between _ _ _ _ a b w11 HH11.out (by omega)).mono ?_
      rintro e w12 ⟨v11, rfl, ho11, hb11⟩
      rw [keep_bet l a b] at ho11
      obtain ⟨q11, hq11⟩ : ∃ q, l.filter (pBet a b) = q := ⟨_, rfl⟩
      rw [hq11] at ho11
      have hlq11 : q11.length ≤ 1000 := by rw [← hq11]; have := List.length_filter_le (pBet a b) l; omega
      obtain ⟨a11, c11, e11, hle11, hrd11, -⟩ := ho11.shape
      subst e11
      have HQ11 := Lib.hid hq11
      have HRD11 := Lib.hid hrd11
      have HH12 := Lib.hid (HH11.out.below hb11)
      have HR12 := Lib.hid (HR11.out.below hb11)
      have HB12 := Lib.hid (HB11.out.trans (hb11.mono HB11.out.size))
      clear ho11 hq11 hrd11 hb11 HH11 HR11 HB11
      go_wp2_with fail
      refine (between_calls (some ad) c l a b w12 HR12.out hc (by omega)).mono ?_
      rintro e w13 ⟨u11, rfl, hg11, hb11⟩
      rw [HQ11.out] at hg11
      obtain ⟨b11, d11, e11, hld11, hsd11⟩ := hg11
      subst e11
      have HSD11 := Lib.hid hsd11
      have HRE11 := Lib.hid (HRD11.out.below hb11)
      have HH13 := Lib.hid (HH12.out.below hb11)
      have HR13 := Lib.hid (HR12.out.below hb11)
      have HB13 := Lib.hid (HB12.out.trans (hb11.mono HB12.out.size))
      clear hsd11 hb11 HH12 HR12 HB12 HRD11
      go_wp2_with fail
      refine (same_calls a11 c11 b11 d11 q11 w13 HRE11.out hle11 HSD11.out hld11 hlq11).mono ?_
      rintro e w14 ⟨rfl, hb11⟩
      have HH14 := Lib.hid (HH13.out.below hb11)
      have HR14 := Lib.hid (HR13.out.below hb11)
      have HB14 := Lib.hid (HB13.out.trans (hb11.mono HB13.out.size))
      clear hb11 HH13 HR13 HB13 HRE11 HSD11 HQ11 hle11 hld11 hlq11
      go_wp2_with fail
      refine (known_true w14).mono ?_
      rintro e w15 ⟨rfl, hb14⟩
      have HB15 := Lib.hid (HB14.out.trans (hb14.mono HB14.out.size))
      clear hb14
      go_wp2_with fail
      go_ret
      exact ⟨rfl, HB15.out⟩
end Go.Proofs.Ytaddhackggbdkaa
