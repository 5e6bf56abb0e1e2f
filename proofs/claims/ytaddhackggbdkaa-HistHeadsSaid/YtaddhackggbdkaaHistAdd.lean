/- Hist.Add, walked; conditions: the history lies in the world, the events lie in memory that is none of the history's. -/
import Derived.Test.YtaddhackggbdkaaNew
import Derived.Test.YtaddhackggbdkaaDel39
import Derived.Test.YtaddhackggbdkaaDel41
namespace Go.Proofs.Ytaddhackggbdkaa
open Go.RowKit Go.Maps Go.Proofs.YtaddhackggbdkaaW.PrintWords Go.Proofs.YtaddhackggbdkaaW.PrintLast Go.Proofs.YtaddhackggbdkaaW.PrintMore PHistTells
set_option maxRecDepth 100000 in
set_option maxHeartbeats 1000000 in
theorem index39_nil (w : World) : Calls Try.prog 49 #[.slice none 0 0, .func (.func 39) #[] #[]] w fun e w' => e = .returned (.int .i64 (-1)) ∧ Below w.heap.size w w' := by
  refine (index39 none 0 [] w (Rd.nil _ _) (by simp)).mono ?_
  rintro e w' ⟨i, rfl, hb, h⟩
  rcases h with ⟨rfl, _⟩ | ⟨k, _, hk, _⟩
  · exact ⟨rfl, hb⟩
  · simp at hk
/-- DeleteFunc of a row of the call's own, a nil one too. -/
theorem drop39 (v : Value) (p : List S39) (B : Nat) (w : World) (ho : Own w B v p) (hl : p.length ≤ 1000) :
    Calls Try.prog 37 #[v, .func (.func 39) #[] #[]] w fun e w' => ∃ v', e = .returned v' ∧ Own w' B v' (keep39 p) ∧ Turn w w' (fun k => v.ownBlock = some k) ∧ v'.ownBlock = v.ownBlock := by
  rcases ho.2 with ⟨rfl, h0⟩ | ⟨g, cap, cur, rfl, hB, hh, h1, h2, h3, h4⟩
  · have hp0 : p = [] := List.length_eq_zero_iff.1 h0
    subst hp0
    clear ho h0
    go_enter Try.func37, Try.ntmps37
    go_wp2_with fail
    refine (index39_nil w).mono ?_
    rintro e w1 ⟨rfl, hb⟩
    have HB := Lib.hid hb
    clear hb
    go_wp2_with fail
    go_ret
    exact ⟨_, rfl, Own.nil _ _, Turn.of_below _ HB.out, rfl⟩
  · refine (delete39 g cap p w (RowAt.of_own ho).1 hl).mono ?_
    rintro e w' ⟨rfl, hr, ht⟩
    exact ⟨_, rfl, hr.own hB, ht.more (fun i hi => by rw [hi]; rfl), rfl⟩
theorem plan_append (l m : List S39) : plan (l ++ m) = plan l ++ plan m := List.filter_append _ _
theorem keep39_plan (l : List S39) : keep39 l = plan l := rfl
/-- Behind the row's growth. -/
theorem HistG.grown {w w1 : World} {B hb : Nat} {l1 l2 l3 l' : List S39} {lv lv' : Value} {ib jb mb nb : Nat} {F G : Nat → Prop} {V U : Lit → Value} (h : HistG w B hb l1 l2 l3 lv ib jb mb nb F G V U)
    (ho : Own w1 B lv' l') (hg : w.grownBy w1 lv.ownBlock) (hloc : lv'.ownBlock = lv.ownBlock ∨ lv'.ownBlock = some w.heap.size) :
    HistG (w1.setCell ⟨hb, 0, none⟩ lv') B hb l' l2 l3 lv' ib jb mb nb F G V U ∧ Turn w (w1.setCell ⟨hb, 0, none⟩ lv') (fun i => lv.ownBlock = some i ∨ i = hb) := by
  have hbl := (Array.getElem?_eq_some_iff.1 h.hd).1
  have hs := hg.size
  have hrow : ∀ i, i < w.heap.size → lv.ownBlock ≠ some i → w1.heap[i]? = w.heap[i]? := fun i hi hn => hg.block i hi (fun e => hn e.symm)
  have hd1 : w1.heap[hb]? = some (.cells #[lv, .pointer (some ⟨ib, 0, none⟩), .pointer (some ⟨jb, 0, none⟩)] 66 (0, 0)) := (hrow hb hbl (fun e => (h.fr hb e).2.2 rfl)).trans h.hd
  have hfr : ∀ g, lv'.ownBlock = some g → ¬ F g ∧ ¬ G g ∧ g ≠ hb := fun g hgo => by
    rcases hloc with e | e
    · rw [e] at hgo
      exact h.fr g hgo
    · rw [e] at hgo
      injection hgo with hgo
      subst hgo
      exact ⟨fun hf => absurd (h.items.low _ hf).2 (by omega), fun hf => absurd (h.insts.low _ hf).2 (by omega), by omega⟩
  have hF : ∀ i, F i → (w1.setCell ⟨hb, 0, none⟩ lv').heap[i]? = w.heap[i]? := fun i hi => by
    rw [set_other _ _ _ _ (fun (e : i = hb) => h.fh (e ▸ hi))]
    exact hrow i (h.items.low i hi).2 (fun e => (h.fr i e).1 hi)
  have hG : ∀ i, G i → (w1.setCell ⟨hb, 0, none⟩ lv').heap[i]? = w.heap[i]? := fun i hi => by
    rw [set_other _ _ _ _ (fun (e : i = hb) => h.gh (e ▸ hi))]
    exact hrow i (h.insts.low i hi).2 (fun e => (h.fr i e).2.1 hi)
  have hsz : w.heap.size ≤ (w1.setCell ⟨hb, 0, none⟩ lv').heap.size := by rw [set_size]; exact hs
  refine ⟨⟨?_, ho.same (fun g hgo => set_other _ _ _ _ (hfr g hgo).2.2), h.items.same hsz hF, h.insts.same hsz hG, h.fg, h.fh, h.gh, hfr, h.low⟩, ⟨hg.os, hg.tape, hg.output, hsz, fun i hi hn => ?_⟩⟩
  · rw [blk_set hd1 0]
    rfl
  · rw [set_other _ _ _ _ (fun e => hn (.inr e))]
    exact hrow i hi (fun e => hn (.inl e))
/-- Behind the first index's growth. -/
theorem HistG.first {w w1 : World} {B hb : Nat} {l1 l2 l3 l' : List S39} {lv : Value} {ib jb mb nb : Nat} {F G : Nat → Prop} {V V' U : Lit → Value} (h : HistG w B hb l1 l2 l3 lv ib jb mb nb F G V U)
    (hi : IxAt w1 63 101 (.func (.func 34) #[] #[]) (fun i => F i ∨ (w.heap.size ≤ i ∧ i < w1.heap.size)) B ib key36 l' mb V') (ht : Turn w w1 F) : HistG w1 B hb l1 l' l3 lv ib jb mb nb (fun i => F i ∨ (w.heap.size ≤ i ∧ i < w1.heap.size)) G V' U := by
  have hbl := (Array.getElem?_eq_some_iff.1 h.hd).1
  refine ⟨(ht.block hb hbl h.fh).trans h.hd, h.row.same (fun g hg => ht.block g (h.row.lt hg).2.1 (h.fr g hg).1), hi, h.insts.same ht.size (fun i hg => ht.block i (h.insts.low i hg).2 (fun hf => h.fg i hf hg)), fun i hf hg => ?_, fun hf => ?_, h.gh, fun g hg => ⟨fun hf => ?_, (h.fr g hg).2⟩, h.low⟩
  · rcases hf with hf | hf
    · exact h.fg i hf hg
    · have := (h.insts.low i hg).2
      omega
  · rcases hf with hf | hf
    · exact h.fh hf
    · omega
  · rcases hf with hf | hf
    · exact (h.fr g hg).1 hf
    · have := (h.row.lt hg).2.1
      omega
/-- Behind the second index's growth. -/
theorem HistG.second {w w1 : World} {B hb : Nat} {l1 l2 l3 l' : List S39} {lv : Value} {ib jb mb nb : Nat} {F G : Nat → Prop} {V U U' : Lit → Value} (h : HistG w B hb l1 l2 l3 lv ib jb mb nb F G V U)
    (hi : IxAt w1 3 73 (.func (.func 35) #[] #[]) (fun i => G i ∨ (w.heap.size ≤ i ∧ i < w1.heap.size)) B jb key23 l' nb U') (ht : Turn w w1 G) : HistG w1 B hb l1 l2 l' lv ib jb mb nb F (fun i => G i ∨ (w.heap.size ≤ i ∧ i < w1.heap.size)) V U' := by
  have hbl := (Array.getElem?_eq_some_iff.1 h.hd).1
  refine ⟨(ht.block hb hbl h.gh).trans h.hd, h.row.same (fun g hg => ht.block g (h.row.lt hg).2.1 (h.fr g hg).2.1), h.items.same ht.size (fun i hf => ht.block i (h.items.low i hf).2 (fun hg => h.fg i hf hg)), hi, fun i hf hg => ?_, h.fh, fun hg => ?_, fun g hg => ⟨(h.fr g hg).1, fun hf => ?_, (h.fr g hg).2.2⟩, h.low⟩
  · rcases hg with hg | hg
    · exact h.fg i hf hg
    · have := (h.items.low i hf).2
      omega
  · rcases hg with hg | hg
    · exact h.gh hg
    · omega
  · rcases hf with hf | hf
    · exact (h.fr g hg).2.1 hf
    · have := (h.row.lt hg).2.1
      omega
/-- A row that was made behind it, turned. -/
theorem HistG.fresh {w w4 w5 : World} {B hb : Nat} {l1 l2 l3 p : List S39} {lv v4 : Value} {ib jb mb nb : Nat} {F G : Nat → Prop} {V U : Lit → Value} (h : HistG w B hb l1 l2 l3 lv ib jb mb nb F G V U)
    (hb4 : Below w.heap.size w w4) (ho : Own w4 w.heap.size v4 p) (ht : Turn w4 w5 (fun k => v4.ownBlock = some k)) : HistG w5 B hb l1 l2 l3 lv ib jb mb nb F G V U :=
  (h.below hb4).same ht.size fun i hi => ht.block i (Nat.lt_of_lt_of_le (h.lt i hi).2 hb4.size) fun hv => by
    have := (ho.lt hv).1
    have := (h.lt i hi).2
    omega
theorem plan_len (p : List S39) : (plan p).length ≤ p.length := List.length_filter_le _ _
theorem plan_mem {p : List S39} {e : S39} (h : e ∈ plan p) : e ∈ p := (List.mem_filter.1 h).1
/-- Events whose keys are numbers. -/
def Wf (l : List S39) : Prop := ∀ e ∈ l, (Lit.int .i64 e.f2).wf = true ∧ (Lit.int .i64 e.f3).wf = true
theorem Rd.turn {w w' : World} {A : Option Addr} {l : List S39} {F : Nat → Prop} (h : Rd w A l) (ht : Turn w w' F) (hn : ∀ ad, A = some ad → l ≠ [] → ¬ F ad.block) : Rd w' A l := by
  rcases h with h | ⟨ad, rfl, hlt, hc⟩
  · exact .inl h
  · exact Rd.mono (.inr ⟨ad, rfl, hlt, hc⟩) ht.size fun ad' e hne => by
      injection e with e
      subst e
      exact ht.block _ hlt (hn _ rfl hne)
set_option maxRecDepth 100000 in
set_option maxHeartbeats 2000000 in
theorem hist_add (B hb : Nat) (l : List S39) (N : Nat → Prop) (A : Option Addr) (c : Nat) (p : List S39) (w : World)
    (h : HistIn w B hb l N) (hp : Rd w A p) (hz : A = none → c = 0) (hq : ∀ ad, A = some ad → p ≠ [] → ¬ N ad.block) (hwf : Wf p) (hl : l.length + p.length ≤ 1000) :
    Calls Try.prog 9 #[.pointer (some ⟨hb, 0, none⟩), .slice A p.length c] w fun e w' => e = .returned (.tuple #[]) ∧ HistIn w' B hb (l ++ p) (fun i => N i ∨ (w.heap.size ≤ i ∧ i < w'.heap.size)) ∧ Turn w w' N := by
  obtain ⟨lv, ib, jb, mb, nb, F, G, V, U, hH, hN, hNl⟩ := h
  have HH := Lib.hid hH
  have HN := Lib.hid hN
  have HNL := Lib.hid hNl
  have HP := Lib.hid hp
  have HZ := Lib.hid hz
  have HQ := Lib.hid hq
  have HWF := Lib.hid hwf
  have HL := Lib.hid hl
  have HB : Hid (B ≤ w.heap.size) := Lib.hid (by have := hNl hb (hN hb (.inr (.inr (.inl rfl)))); omega)
  have c0 := cell_of hH.hd 0
  clear hH hN hNl hp hz hq hwf hl
  go_enter Try.func9, Try.ntmps9
  go_upto_region 2 with (at_builtin; refine wpList_append_ev rfl _ _ rfl lv rfl HH.out.row rfl HP.out HZ.out (by have := HL.out; omega) HB.out ?_; intro lv' w1 ho hg hloc; obtain ⟨a', c', e', -, -, -⟩ := ho.shape; rw [List.length_append] at e'; subst e'; have hrw : ∀ i, (Value.slice a' (l.length + p.length) c').ownBlock = some i → i < w.heap.size → N i := (fun i hi hlt => by rcases hloc with h | h; exact HN.out i (.inr (.inr (.inr (h ▸ hi)))); (rw [h] at hi; injection hi with hi; omega)); have HRW := Lib.hid hrw; clear hrw; have hgr := HH.out.grown ho hg hloc; have hd1 := (hg.block hb (Array.getElem?_eq_some_iff.1 HH.out.hd).1 (fun e => (HH.out.fr hb e.symm).2.2 rfl)).trans HH.out.hd; have H1 := Lib.hid hgr; have d0 := cell_of hd1 0; have f0 := free_of hd1 0; clear ho hg hloc hgr hd1 c0)
  have HP2 : Hid (Rd (w1.setCell ⟨hb, 0, none⟩ (.slice a' (l.length + p.length) c')) A p) := Lib.hid (HP.out.turn H1.out.2 (fun ad e hne hc => HQ.out ad e hne (HN.out _ (by rcases hc with hc | hc; exact .inr (.inr (.inr hc)); exact .inr (.inr (.inl hc))))))
  have c1 := cell_of H1.out.1.hd 1
  clear d0 f0
  obtain ⟨W2, hW2⟩ : ∃ W2, w1.setCell ⟨hb, 0, none⟩ (.slice a' (l.length + p.length) c') = W2 := ⟨_, rfl⟩
  rw [hW2] at HP2 c1
  have H2 : Hid (HistG W2 B hb (l ++ p) l (plan l) (.slice a' (l.length + p.length) c') ib jb mb nb F G V U ∧ Turn w W2 (fun i => lv.ownBlock = some i ∨ i = hb)) := by rw [← hW2]; exact H1
  clear H1
  go_wp2_with fail
  refine (add36 ib mb B F l V A c p W2 H2.out.1.items HP2.out (fun ad e hne hf => HQ.out ad e hne (HN.out _ (.inl hf))) (fun e he => (HWF.out e he).1) HL.out).mono ?_
  rintro e w3 ⟨rfl, V3, hi3, ht3⟩
  have H3 := Lib.hid (H2.out.1.first hi3 ht3)
  have HT3 : Hid (Turn w w3 N) := Lib.hid ((H2.out.2.more (fun i hi => HN.out i (by rcases hi with hi | hi; exact .inr (.inr (.inr hi)); exact .inr (.inr (.inl hi))))).trans ht3 (fun i _ hF => HN.out i (.inl hF)))
  have HP3 : Hid (Rd w3 A p) := Lib.hid (HP2.out.turn ht3 (fun ad e hne hf => HQ.out ad e hne (HN.out _ (.inl hf))))
  have HW2 : Hid (w.heap.size ≤ W2.heap.size ∧ W2.heap.size ≤ w3.heap.size) := Lib.hid ⟨H2.out.2.size, ht3.size⟩
  have hlp : p.length ≤ 1000 := by have := HL.out; omega
  clear hi3 ht3 c1 hW2
  go_wp2_with fail
  go_region_held3 (fun w' => w'.cell? ⟨hb, 2, none⟩ = some (.pointer (some ⟨jb, 0, none⟩)))
    (first | exact cell_of H3.out.hd 2 | exact cell_of H4.out.1.hd 2 | exact cell_of H5.out.1.hd 2 | exact cell_of H6.out.1.hd 2)
    (first
    | (go_at_call 38; refine (clone_calls A c p w3.drew HP3.out HZ.out hlp).mono ?_; rintro e w4 ⟨v4, rfl, ho4, hb4⟩; have hb4' := (Below.refl w3.heap.size w3).drew.trans hb4; have ho4' : Own w4 w3.heap.size v4 p := ho4; have H4 := Lib.hid (And.intro (H3.out.below hb4') (And.intro ho4' hb4')); clear ho4 hb4 hb4' ho4')
    | (go_at_call 37; refine (drop39 v4 p w3.heap.size w4 H4.out.2.1 hlp).mono ?_; rintro e w5 ⟨v5, rfl, ho5, ht5, hv5⟩; obtain ⟨a5, c5, e5, -, hr5, -⟩ := ho5.shape; subst e5; have H5 := Lib.hid (And.intro (H3.out.fresh H4.out.2.2 H4.out.2.1 ht5) (And.intro hr5 (And.intro ((Turn.of_below N H4.out.2.2).trans ht5 (fun i hi hv => absurd (H4.out.2.1.lt hv).1 (by omega))) (fun g (hg : (Value.slice a5 (keep39 p).length c5).ownBlock = some g) => (ho5.lt hg).1)))); clear ho5 ht5 hv5 hr5)
    | (go_at_call 23; refine (add23 jb nb B G (plan l) U a5 c5 (keep39 p) w5 H5.out.1.insts H5.out.2.1 (fun ad e hne hg => by subst e; exact absurd (H5.out.2.2.2 ad.block rfl) (by have := (H3.out.insts.low _ hg).2; omega)) (fun e he => (HWF.out e (plan_mem he)).2) (by have := HL.out; have := plan_len l; have := plan_len p; rw [keep39_plan]; omega)).mono ?_; rintro e w6 ⟨rfl, U6, hi6, ht6⟩; have H6 := Lib.hid (And.intro (H5.out.1.second hi6 ht6) ht6); clear hi6 ht6))
  go_wp2_with fail
  go_end0
  have hG6 := H6.out.1
  rw [keep39_plan, ← plan_append] at hG6
  have s35 := H5.out.2.2.1.size
  have s56 := H6.out.2.size
  have sw := HW2.out
  have hTot : Turn w w6 N := (HT3.out.trans H5.out.2.2.1 (fun _ _ h => h)).trans H6.out.2 (fun i _ hg => HN.out i (.inr (.inl hg)))
  refine ⟨rfl, ⟨_, _, _, _, _, _, _, _, _, hG6, fun i hi => ?_, fun i hi => ?_⟩, hTot⟩
  · have hlo := hG6.lt i hi
    rcases hi with (hi | hi) | (hi | hi) | hi | hi
    · exact .inl (HN.out i (.inl hi))
    · exact .inr ⟨by omega, by omega⟩
    · exact .inl (HN.out i (.inr (.inl hi)))
    · exact .inr ⟨by omega, by omega⟩
    · exact .inl (HN.out i (.inr (.inr (.inl hi))))
    · have hr := H2.out.1.row
      rcases Nat.lt_or_ge i w.heap.size with hlt | hge
      · exact .inl (HRW.out i hi hlt)
      · exact .inr ⟨hge, hlo.2⟩
  · rcases hi with hi | hi
    · have := HNL.out i hi
      exact ⟨this.1, Nat.lt_of_lt_of_le this.2 hTot.size⟩
    · have := HB.out
      exact ⟨by omega, hi.2⟩
end Go.Proofs.Ytaddhackggbdkaa
