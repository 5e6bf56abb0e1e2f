/- Index.Add over keys of one kind, walked; conditions: the index lies in the world, the events lie in memory that is none of the index's. -/
import Derived.Test.YtaddhackggbdkaaAddKit
namespace Go.Proofs.Ytaddhackggbdkaa
open Go.RowKit Go.Maps Go.Proofs.YtaddhackggbdkaaW.PrintWords Go.Proofs.YtaddhackggbdkaaW.PrintLast Go.Proofs.YtaddhackggbdkaaW.PrintMore PHistTells
theorem IxAt.apartN {w w2 w5 : World} {k T : TypeId} {fv : Value} {F : Nat → Prop} {B ib mb : Nat} {key : S39 → Lit} {l : List S39} {V : Lit → Value} {kl : Lit} {o : Obj} (h : IxAt w k T fv F B ib key l mb V) (hb : Below w.heap.size w w2)
    (hg : (w2.alloc o).drew.grownBy w5 (V kl).ownBlock) : (∀ i, i < w2.heap.size → (i = ib ∨ w.heap.size ≤ i) → w5.heap[i]? = w2.heap[i]?) ∧ MapV w5 k mb l.length V := by
  obtain ⟨es, clock, hmap⟩ := h.mp.lt.2
  have hsz : (w2.alloc o).drew.heap.size = w2.heap.size + 1 := by simp
  have hne : ∀ i, (V kl).ownBlock = some i → i ≠ ib ∧ i ≠ mb ∧ i < w.heap.size := fun i e1 => by
    obtain ⟨_, hlt, cur, hc⟩ := (h.own kl).lt e1
    refine ⟨fun e2 => ?_, fun e2 => ?_, hlt⟩
    · rw [e2, h.hd] at hc
      injection hc with hc
      injection hc with _ ht _
      exact h.ne ht
    · rw [e2, hmap] at hc
      cases hc
  have hold : ∀ i, i < w2.heap.size → (V kl).ownBlock ≠ some i → w5.heap[i]? = w2.heap[i]? := fun i hi hn => by
    rw [hg.block i (by omega) (fun e1 => hn e1.symm)]
    exact Below.heap_alloc w2 o i hi
  have s2 := hb.size
  have hmblt := (h.low mb h.fm).2
  refine ⟨fun i hi hc => hold i hi fun e1 => ?_, h.mp.same ?_⟩
  · have := hne i e1
    rcases hc with hc | hc
    · exact this.1 hc
    · omega
  · rw [hold mb (by omega) (fun e1 => (hne mb e1).2.1 rfl)]
    exact hb.block mb hmblt
theorem keepN {w w2 w5 w6 : World} {k T : TypeId} {fv : Value} {F : Nat → Prop} {B ib mb : Nat} {key : S39 → Lit} {l : List S39} {V : Lit → Value} (h : IxAt w k T fv F B ib key l mb V)
    (h5 : ∀ i, i < w2.heap.size → (i = ib ∨ w.heap.size ≤ i) → w5.heap[i]? = w2.heap[i]?) (hs5 : w2.heap.size ≤ w5.heap.size) (hg : w5.grownBy w6 (some mb)) : ∀ i, i < w2.heap.size → (i = ib ∨ w.heap.size ≤ i) → w6.heap[i]? = w2.heap[i]? := by
  obtain ⟨es, clock, hmap⟩ := h.mp.lt.2
  have him : ib ≠ mb := by
    intro e1
    rw [← e1, h.hd] at hmap
    cases hmap
  have hmblt := (h.low mb h.fm).2
  intro i hi hc
  rw [hg.block i (by omega) (fun e1 => by
    injection e1 with e1
    rcases hc with hc | hc
    · exact him (hc ▸ e1)
    · omega)]
  exact h5 i hi hc
def key36 (x : S39) : Lit := subLit x.f1 x.f2
set_option maxRecDepth 100000 in
set_option maxHeartbeats 4000000 in
theorem add36 (ib mb B : Nat) (F : Nat → Prop) (l : List S39) (V : Lit → Value) (A : Option Addr) (c : Nat) (p : List S39) (w : World)
    (h : IxAt w 63 101 (.func (.func 34) #[] #[]) F B ib key36 l mb V) (hp : Rd w A p) (hq : ∀ ad, A = some ad → p ≠ [] → ¬ F ad.block) (hwf : ∀ e ∈ p, (Lit.int .i64 e.f2).wf = true) (hl : l.length + p.length ≤ 1000) :
    Calls Try.prog 36 #[.pointer (some ⟨ib, 0, none⟩), .slice A p.length c] w fun e w' => e = .returned (.tuple #[]) ∧ ∃ V', IxAt w' 63 101 (.func (.func 34) #[] #[]) (fun i => F i ∨ (w.heap.size ≤ i ∧ i < w'.heap.size)) B ib key36 (l ++ p) mb V' ∧ Turn w w' F := by
  have HH := Lib.hid h
  have HP := Lib.hid hp
  have HQ := Lib.hid hq
  have HWF := Lib.hid hwf
  have HL := Lib.hid hl
  clear h hp hq hwf hl
  go_enter Try.func36, Try.ntmps36
  go_wp2_with fail
  go_loopg [11] p.length (fun g i wr => ∃ j, j ≤ p.length ∧ g + j = p.length ∧ i = .int .i64 j ∧ Hid (Turn w wr F) ∧ ∃ V', Hid (IxAt wr 63 101 (.func (.func 34) #[] #[]) (fun i => F i ∨ (w.heap.size ≤ i ∧ i < wr.heap.size)) B ib key36 (l ++ p.take j) mb V'))
  case atStart => exact ⟨0, Nat.zero_le _, rfl, rfl, Lib.hid (Turn.refl _ _), V, Lib.hid (by
    have h := HH.out
    rw [List.take_zero, List.append_nil]
    exact ⟨h.hd, h.mp, h.own, h.apart, .inl h.fi, .inl h.fm, fun kl g hg => .inl (h.fr kl g hg), fun i hi => by
      rcases hi with hi | hi
      · exact h.low i hi
      · omega, h.ne⟩)⟩
  case round =>
    obtain ⟨j, hj, hg, rfl, HT, V', HI⟩ := hrel
    have HG := Lib.hid hg
    clear hg
    by_cases hlt : j < p.length
    · have hll : (l ++ p.take j).length ≤ 1000 := by
        have := HL.out
        rw [List.length_append, List.length_take]
        omega
      have hrd : Rd wr A p := HP.out.mono HT.out.size fun ad e hne => HT.out.block _ (by
        rcases HP.out with h | ⟨ad', e', h, _⟩
        · exact absurd h hne
        · rw [e] at e'
          injection e' with e'
          subst e'
          exact h) (HQ.out ad e hne)
      obtain ⟨ad, e, hadlt, c0, c1, c2, c3, c4⟩ := event_at hrd (by have := HL.out; omega) hlt
      have HWX := Lib.hid (HWF.out _ (List.getElem_mem hlt))
      have HTK : Hid (l ++ p.take (j + 1) = (l ++ p.take j) ++ [p[j]]) := Lib.hid (by rw [List.take_add_one, List.getElem?_eq_getElem hlt, List.append_assoc]; rfl)
      generalize hx : p[j] = x at *
      have HLL := Lib.hid hll
      generalize hL : l ++ p.take j = L at *
      clear hrd hx hL hll
      subst e
      obtain ⟨W1, hW1⟩ : ∃ W1, wr.alloc (.cells #[.int .i64 x.f0, .bool x.f1, .int .i64 x.f2, .int .i64 x.f3, .int .i64 x.f4] 39) = W1 := ⟨_, rfl⟩
      have HB1 : Hid (Below wr.heap.size wr W1) := Lib.hid (by rw [← hW1]; exact (Below.refl _ _).alloc (Nat.le_refl _) _)
      have HE1 : Hid (W1.heap[wr.heap.size]? = some (.cells #[.int .i64 x.f0, .bool x.f1, .int .i64 x.f2, .int .i64 x.f3, .int .i64 x.f4] 39 (0, 0))) := Lib.hid (by rw [← hW1]; exact heap_alloc_new wr _)
      have HS : Hid (∀ w', Below W1.heap.size W1 w' → w'.cell? ⟨ib, 0, none⟩ = some (.func (.func 34) #[] #[]) ∧ w'.cell? ⟨wr.heap.size, 0, none⟩ = some (.int .i64 x.f0) ∧ w'.cell? ⟨wr.heap.size, 1, none⟩ = some (.bool x.f1) ∧ w'.cell? ⟨wr.heap.size, 2, none⟩ = some (.int .i64 x.f2) ∧ w'.cell? ⟨wr.heap.size, 3, none⟩ = some (.int .i64 x.f3) ∧ w'.cell? ⟨wr.heap.size, 4, none⟩ = some (.int .i64 x.f4)) := Lib.hid (fun w' hb =>
        ⟨cell_of (HI.out.below (HB1.out.trans (hb.mono HB1.out.size))).hd 0, five ((hb.block _ (Array.getElem?_eq_some_iff.1 HE1.out).1).trans HE1.out)⟩)
      have HALL : Hid (∀ o : Obj, Below W1.heap.size W1 (W1.alloc o)) := Lib.hid (fun o => (Below.refl _ _).alloc (Nat.le_refl _) o)
      go_wp2_with fail
      go_region_held3 (fun w' => w'.cell? ⟨ib, 0, none⟩ = some (.func (.func 34) #[] #[]) ∧ w'.cell? ⟨wr.heap.size, 0, none⟩ = some (.int .i64 x.f0) ∧ w'.cell? ⟨wr.heap.size, 1, none⟩ = some (.bool x.f1) ∧ w'.cell? ⟨wr.heap.size, 2, none⟩ = some (.int .i64 x.f2) ∧ w'.cell? ⟨wr.heap.size, 3, none⟩ = some (.int .i64 x.f3) ∧ w'.cell? ⟨wr.heap.size, 4, none⟩ = some (.int .i64 x.f4))
        (first | exact HS.out _ H2.out | exact HS.out _ (Below.refl _ _).drew | exact HS.out _ (HALL.out _).drew | exact HS.out _ (H2.out.alloc H2.out.size _) | exact HS.out _ HST.out)
        (first
        | (go_at_call 34; refine (key34 x _).mono ?_; rintro e w2 ⟨rfl, hb2⟩; first | (have H2 := Lib.hid ((Below.refl W1.heap.size W1).drew.trans hb2); clear hb2) | (have HBX := Lib.hid ((hb2.block W1.heap.size (by simp)).trans (heap_alloc_new W1 (.cells #[.bool false, .int .i64 0] 63))); have fz := free_of HBX.out; have fz0 := fz 0; have fz1 := fz 1; have cz0 := cell_of HBX.out 0; have cz1 := cell_of HBX.out 1; have H2 := Lib.hid ((HALL.out (.cells #[.bool false, .int .i64 0] 63)).drew.trans (hb2.mono (by simp))); have HST := Lib.hid ((H2.out.setCell (p := ⟨W1.heap.size, 0, none⟩) (Nat.le_refl _) (.bool x.f1)).setCell (p := ⟨W1.heap.size, 1, none⟩) (Nat.le_refl _) (.int .i64 x.f2)); clear hb2 fz)))
      · skip
        obtain ⟨w4, g6, e4, e6, hB4, hG6, hE4, hg6⟩ : ∃ w4 g6, w2.alloc (.cells #[.bool x.f1, .int .i64 x.f2] 63) = w4 ∧ w2.heap.size = g6 ∧ Below wr.heap.size wr w4 ∧ w4.heap[g6]? = some (.cells #[.bool x.f1, .int .i64 x.f2] 63 (0, 0)) ∧ w4.heap[wr.heap.size]? = some (.cells #[.int .i64 x.f0, .bool x.f1, .int .i64 x.f2, .int .i64 x.f3, .int .i64 x.f4] 39 (0, 0)) ∧ wr.heap.size ≤ g6 := by
          have hlt := (Array.getElem?_eq_some_iff.1 HE1.out).1
          have hs := H2.out.size
          have hb := HB1.out.trans (H2.out.mono HB1.out.size)
          exact ⟨_, _, rfl, rfl, hb.alloc hb.size _, heap_alloc_new w2 _, (Below.heap_alloc w2 _ _ (by omega)).trans ((H2.out.block _ hlt).trans HE1.out), by omega⟩
        clear H2
        rw [e4, e6]
        have HB4 := Lib.hid hB4
        have HG6 := Lib.hid hG6
        have HE4 := Lib.hid hE4
        have HLG := Lib.hid (And.intro (And.intro hg6 (Array.getElem?_eq_some_iff.1 hG6).1) (Array.getElem?_eq_some_iff.1 hE4).1)
        clear hB4 hG6 hE4 hg6 e4 e6
        go_wp2_with fail
        have HS5 : Hid (∀ w' : World, (∀ i, i < w4.heap.size → (i = ib ∨ wr.heap.size ≤ i) → w'.heap[i]? = w4.heap[i]?) → w'.cell? ⟨ib, 1, none⟩ = some (.map (some mb)) ∧ w'.cell? ⟨wr.heap.size, 0, none⟩ = some (.int .i64 x.f0) ∧ w'.cell? ⟨wr.heap.size, 1, none⟩ = some (.bool x.f1) ∧ w'.cell? ⟨wr.heap.size, 2, none⟩ = some (.int .i64 x.f2) ∧ w'.cell? ⟨wr.heap.size, 3, none⟩ = some (.int .i64 x.f3) ∧ w'.cell? ⟨wr.heap.size, 4, none⟩ = some (.int .i64 x.f4) ∧ w'.cell? ⟨g6, 0, none⟩ = some (.bool x.f1) ∧ w'.cell? ⟨g6, 1, none⟩ = some (.int .i64 x.f2)) := Lib.hid (fun w' hb => by
          have h5 := five ((hb _ HLG.out.2 (.inr (Nat.le_refl _))).trans HE4.out)
          have h6 := (hb _ HLG.out.1.2 (.inr HLG.out.1.1)).trans HG6.out
          exact ⟨cell_of ((hb _ (Nat.lt_of_lt_of_le (HI.out.low ib HI.out.fi).2 HB4.out.size) (.inl rfl)).trans (HI.out.below HB4.out).hd) 1, h5.1, h5.2.1, h5.2.2.1, h5.2.2.2.1, h5.2.2.2.2, cell_of h6 0, cell_of h6 1⟩)
        have M2 : Hid (MapV w4.drew 63 mb L.length V') := Lib.hid (HI.out.below HB4.out).mp
        have HB3 : Hid (Below wr.heap.size wr (w4.alloc (.cells #[.int .i64 x.f0, .bool x.f1, .int .i64 x.f2, .int .i64 x.f3, .int .i64 x.f4] 39)).drew) := Lib.hid (Below.alloc (w := w4) HB4.out HB4.out.size _).drew
        have M3 : Hid (MapV (w4.alloc (.cells #[.int .i64 x.f0, .bool x.f1, .int .i64 x.f2, .int .i64 x.f3, .int .i64 x.f4] 39)).drew 63 mb L.length V') := Lib.hid (HI.out.below HB3.out).mp
        have HO3 := Lib.hid (HI.out.own1 HB3.out (key36 x))
        have HR3 : Hid (Rd (w4.alloc (.cells #[.int .i64 x.f0, .bool x.f1, .int .i64 x.f2, .int .i64 x.f3, .int .i64 x.f4] 39)).drew (some ⟨w4.heap.size, 0, none⟩) [x]) := Lib.hid (rd_one (heap_alloc_new w4 _))
        have HK3 : Hid (∀ i, i < w4.heap.size → (i = ib ∨ wr.heap.size ≤ i) → (w4.alloc (.cells #[.int .i64 x.f0, .bool x.f1, .int .i64 x.f2, .int .i64 x.f3, .int .i64 x.f4] 39)).drew.heap[i]? = w4.heap[i]?) := Lib.hid (fun i hi _ => Below.heap_alloc w4 _ i hi)
        have HGL := Lib.hid (Nat.le_trans (grp_len key36 L (key36 x)) HLL.out)
        have HBW : Hid (B ≤ wr.heap.size) := Lib.hid (by have := HI.out.low ib HI.out.fi; omega)
        have hl2 := M2.out.look law63 Try.underlying99 (zero22 _) (keyOf_sub x.f1 x.f2 HWX.out)
        have hl3 := M3.out.look law63 Try.underlying99 (zero22 _) (keyOf_sub x.f1 x.f2 HWX.out)
        go_region_held3 (fun w' => w'.cell? ⟨ib, 1, none⟩ = some (.map (some mb)) ∧ w'.cell? ⟨wr.heap.size, 0, none⟩ = some (.int .i64 x.f0) ∧ w'.cell? ⟨wr.heap.size, 1, none⟩ = some (.bool x.f1) ∧ w'.cell? ⟨wr.heap.size, 2, none⟩ = some (.int .i64 x.f2) ∧ w'.cell? ⟨wr.heap.size, 3, none⟩ = some (.int .i64 x.f3) ∧ w'.cell? ⟨wr.heap.size, 4, none⟩ = some (.int .i64 x.f4) ∧ w'.cell? ⟨g6, 0, none⟩ = some (.bool x.f1) ∧ w'.cell? ⟨g6, 1, none⟩ = some (.int .i64 x.f2))
          (first | exact HS5.out _ (fun _ _ _ => rfl) | exact HS5.out _ HK3.out | exact HS5.out _ H5.out.1 | exact HS5.out _ H6.out.1)
          (first
          | (refine step_append_ev rfl _ _ rfl (V' (key36 x)) rfl HO3.out rfl rfl HR3.out (fun e => by cases e) (by have := HGL.out; simp only [List.length_cons, List.length_nil]; omega) (Nat.le_trans HBW.out HB3.out.size) ?_; intro v5 w5 ho5 hg5 hl5; have H5 := Lib.hid (And.intro (HI.out.apartN HB4.out hg5).1 (And.intro ho5 (And.intro hg5 (And.intro hl5 (HI.out.apartN HB4.out hg5).2)))); clear ho5 hg5 hl5; obtain ⟨w6, V6, hrun6, hm6, hg6, hv6, hv6'⟩ := H5.out.2.2.2.2.store (v := v5) law63 Try.underlying99 (by have := HLL.out; unfold maxLen; omega) (keyOf_sub x.f1 x.f2 HWX.out); have H6 := Lib.hid (And.intro (keepN HI.out H5.out.1 (Nat.le_trans (by simp) H5.out.2.2.1.size) hg6) (And.intro hm6 (And.intro hg6 (And.intro hv6 hv6')))); clear hm6 hg6 hv6 hv6'))
        all_goals
          have hhd := HI.out.head HB3.out H5.out.2.2.1 H6.out.2.2.1
          have HRD := Lib.hid (HI.out.round (law63.key (keyOf_sub x.f1 x.f2 HWX.out)) HB3.out H5.out.2.2.1 H5.out.2.1 H5.out.2.2.2.1 H6.out.2.2.1 H6.out.2.1 H6.out.2.2.2.1 H6.out.2.2.2.2)
          have c6 := cell_of hhd 2
          have f6 := free_of hhd 2
          have HS6 := Lib.hid (Nat.le_trans HB3.out.size (Nat.le_trans H5.out.2.2.1.size H6.out.2.2.1.size))
          clear hl2 hl3 hrun6 hhd HS5 M2 M3 HO3 HR3 HK3 H5 H6 HB3 HB4 HG6 HE4 HLG hW1 HB1 HE1 HS HALL
          go_wp2_with fail
          have hw7 : wrap64 ((L.length : Int) + 1) = ((L ++ [x]).length : Int) := by
            have := HLL.out
            rw [List.length_append, List.length_singleton]
            unfold wrap64
            omega
          rw [hw7]
          have HRW := HRD.out
          go_roundg (p.length - (j + 1))
          case rel =>
            have hpl := HL.out
            refine ⟨j + 1, by omega, by omega, by rw [show wrap64 ((j : Int) + 1) = ((j + 1 : Nat) : Int) by unfold wrap64; omega], Lib.hid (HT.out.trans HRW.2 fun i hi hF => ?_), V6, Lib.hid ?_⟩
            · rcases hF with h | h
              · exact h
              · omega
            · rw [HTK.out]
              refine HRW.1.widen (fun i hi => ?_) (fun i hi => ?_)
              · rw [set_size]
                have hs6 := HS6.out
                have hsT := HT.out.size
                rcases hi with (h | h) | h
                · exact .inl h
                · exact .inr (by omega)
                · exact .inr (by omega)
              · rcases hi with h | h
                · have := HI.out.low i (.inl h)
                  have hs6 := HS6.out
                  rw [set_size]
                  omega
                · have := HBW.out
                  have hsT := HT.out.size
                  have hB0 := (HH.out.low ib HH.out.fi)
                  omega
          case measure => have := HG.out; omega
      · skip
        obtain ⟨w4, g6, e4, e6, hB4, hG6, hE4, hg6⟩ : ∃ w4 g6, (w2.setCell ⟨W1.heap.size, 0, none⟩ (.bool x.f1)).setCell ⟨W1.heap.size, 1, none⟩ (.int .i64 x.f2) = w4 ∧ W1.heap.size = g6 ∧ Below wr.heap.size wr w4 ∧ w4.heap[g6]? = some (.cells #[.bool x.f1, .int .i64 x.f2] 63 (0, 0)) ∧ w4.heap[wr.heap.size]? = some (.cells #[.int .i64 x.f0, .bool x.f1, .int .i64 x.f2, .int .i64 x.f3, .int .i64 x.f4] 39 (0, 0)) ∧ wr.heap.size ≤ g6 := by
          have hlt := (Array.getElem?_eq_some_iff.1 HE1.out).1
          refine ⟨_, _, rfl, rfl, HB1.out.trans (HST.out.mono HB1.out.size), blk_set (blk_set HBX.out 0 _) 1 _, (HST.out.block _ hlt).trans HE1.out, HB1.out.size⟩
        clear H2 HBX HST fz0 fz1 cz0 cz1
        rw [e4, e6]
        have HB4 := Lib.hid hB4
        have HG6 := Lib.hid hG6
        have HE4 := Lib.hid hE4
        have HLG := Lib.hid (And.intro (And.intro hg6 (Array.getElem?_eq_some_iff.1 hG6).1) (Array.getElem?_eq_some_iff.1 hE4).1)
        clear hB4 hG6 hE4 hg6 e4 e6
        go_wp2_with fail
        have HS5 : Hid (∀ w' : World, (∀ i, i < w4.heap.size → (i = ib ∨ wr.heap.size ≤ i) → w'.heap[i]? = w4.heap[i]?) → w'.cell? ⟨ib, 1, none⟩ = some (.map (some mb)) ∧ w'.cell? ⟨wr.heap.size, 0, none⟩ = some (.int .i64 x.f0) ∧ w'.cell? ⟨wr.heap.size, 1, none⟩ = some (.bool x.f1) ∧ w'.cell? ⟨wr.heap.size, 2, none⟩ = some (.int .i64 x.f2) ∧ w'.cell? ⟨wr.heap.size, 3, none⟩ = some (.int .i64 x.f3) ∧ w'.cell? ⟨wr.heap.size, 4, none⟩ = some (.int .i64 x.f4) ∧ w'.cell? ⟨g6, 0, none⟩ = some (.bool x.f1) ∧ w'.cell? ⟨g6, 1, none⟩ = some (.int .i64 x.f2)) := Lib.hid (fun w' hb => by
          have h5 := five ((hb _ HLG.out.2 (.inr (Nat.le_refl _))).trans HE4.out)
          have h6 := (hb _ HLG.out.1.2 (.inr HLG.out.1.1)).trans HG6.out
          exact ⟨cell_of ((hb _ (Nat.lt_of_lt_of_le (HI.out.low ib HI.out.fi).2 HB4.out.size) (.inl rfl)).trans (HI.out.below HB4.out).hd) 1, h5.1, h5.2.1, h5.2.2.1, h5.2.2.2.1, h5.2.2.2.2, cell_of h6 0, cell_of h6 1⟩)
        have M2 : Hid (MapV w4.drew 63 mb L.length V') := Lib.hid (HI.out.below HB4.out).mp
        have HB3 : Hid (Below wr.heap.size wr (w4.alloc (.cells #[.int .i64 x.f0, .bool x.f1, .int .i64 x.f2, .int .i64 x.f3, .int .i64 x.f4] 39)).drew) := Lib.hid (Below.alloc (w := w4) HB4.out HB4.out.size _).drew
        have M3 : Hid (MapV (w4.alloc (.cells #[.int .i64 x.f0, .bool x.f1, .int .i64 x.f2, .int .i64 x.f3, .int .i64 x.f4] 39)).drew 63 mb L.length V') := Lib.hid (HI.out.below HB3.out).mp
        have HO3 := Lib.hid (HI.out.own1 HB3.out (key36 x))
        have HR3 : Hid (Rd (w4.alloc (.cells #[.int .i64 x.f0, .bool x.f1, .int .i64 x.f2, .int .i64 x.f3, .int .i64 x.f4] 39)).drew (some ⟨w4.heap.size, 0, none⟩) [x]) := Lib.hid (rd_one (heap_alloc_new w4 _))
        have HK3 : Hid (∀ i, i < w4.heap.size → (i = ib ∨ wr.heap.size ≤ i) → (w4.alloc (.cells #[.int .i64 x.f0, .bool x.f1, .int .i64 x.f2, .int .i64 x.f3, .int .i64 x.f4] 39)).drew.heap[i]? = w4.heap[i]?) := Lib.hid (fun i hi _ => Below.heap_alloc w4 _ i hi)
        have HGL := Lib.hid (Nat.le_trans (grp_len key36 L (key36 x)) HLL.out)
        have HBW : Hid (B ≤ wr.heap.size) := Lib.hid (by have := HI.out.low ib HI.out.fi; omega)
        have hl2 := M2.out.look law63 Try.underlying99 (zero22 _) (keyOf_sub x.f1 x.f2 HWX.out)
        have hl3 := M3.out.look law63 Try.underlying99 (zero22 _) (keyOf_sub x.f1 x.f2 HWX.out)
        go_region_held3 (fun w' => w'.cell? ⟨ib, 1, none⟩ = some (.map (some mb)) ∧ w'.cell? ⟨wr.heap.size, 0, none⟩ = some (.int .i64 x.f0) ∧ w'.cell? ⟨wr.heap.size, 1, none⟩ = some (.bool x.f1) ∧ w'.cell? ⟨wr.heap.size, 2, none⟩ = some (.int .i64 x.f2) ∧ w'.cell? ⟨wr.heap.size, 3, none⟩ = some (.int .i64 x.f3) ∧ w'.cell? ⟨wr.heap.size, 4, none⟩ = some (.int .i64 x.f4) ∧ w'.cell? ⟨g6, 0, none⟩ = some (.bool x.f1) ∧ w'.cell? ⟨g6, 1, none⟩ = some (.int .i64 x.f2))
          (first | exact HS5.out _ (fun _ _ _ => rfl) | exact HS5.out _ HK3.out | exact HS5.out _ H5.out.1 | exact HS5.out _ H6.out.1)
          (first
          | (refine step_append_ev rfl _ _ rfl (V' (key36 x)) rfl HO3.out rfl rfl HR3.out (fun e => by cases e) (by have := HGL.out; simp only [List.length_cons, List.length_nil]; omega) (Nat.le_trans HBW.out HB3.out.size) ?_; intro v5 w5 ho5 hg5 hl5; have H5 := Lib.hid (And.intro (HI.out.apartN HB4.out hg5).1 (And.intro ho5 (And.intro hg5 (And.intro hl5 (HI.out.apartN HB4.out hg5).2)))); clear ho5 hg5 hl5; obtain ⟨w6, V6, hrun6, hm6, hg6, hv6, hv6'⟩ := H5.out.2.2.2.2.store (v := v5) law63 Try.underlying99 (by have := HLL.out; unfold maxLen; omega) (keyOf_sub x.f1 x.f2 HWX.out); have H6 := Lib.hid (And.intro (keepN HI.out H5.out.1 (Nat.le_trans (by simp) H5.out.2.2.1.size) hg6) (And.intro hm6 (And.intro hg6 (And.intro hv6 hv6')))); clear hm6 hg6 hv6 hv6'))
        all_goals
          have hhd := HI.out.head HB3.out H5.out.2.2.1 H6.out.2.2.1
          have HRD := Lib.hid (HI.out.round (law63.key (keyOf_sub x.f1 x.f2 HWX.out)) HB3.out H5.out.2.2.1 H5.out.2.1 H5.out.2.2.2.1 H6.out.2.2.1 H6.out.2.1 H6.out.2.2.2.1 H6.out.2.2.2.2)
          have c6 := cell_of hhd 2
          have f6 := free_of hhd 2
          have HS6 := Lib.hid (Nat.le_trans HB3.out.size (Nat.le_trans H5.out.2.2.1.size H6.out.2.2.1.size))
          clear hl2 hl3 hrun6 hhd HS5 M2 M3 HO3 HR3 HK3 H5 H6 HB3 HB4 HG6 HE4 HLG hW1 HB1 HE1 HS HALL
          go_wp2_with fail
          have hw7 : wrap64 ((L.length : Int) + 1) = ((L ++ [x]).length : Int) := by
            have := HLL.out
            rw [List.length_append, List.length_singleton]
            unfold wrap64
            omega
          rw [hw7]
          have HRW := HRD.out
          go_roundg (p.length - (j + 1))
          case rel =>
            have hpl := HL.out
            refine ⟨j + 1, by omega, by omega, by rw [show wrap64 ((j : Int) + 1) = ((j + 1 : Nat) : Int) by unfold wrap64; omega], Lib.hid (HT.out.trans HRW.2 fun i hi hF => ?_), V6, Lib.hid ?_⟩
            · rcases hF with h | h
              · exact h
              · omega
            · rw [HTK.out]
              refine HRW.1.widen (fun i hi => ?_) (fun i hi => ?_)
              · rw [set_size]
                have hs6 := HS6.out
                have hsT := HT.out.size
                rcases hi with (h | h) | h
                · exact .inl h
                · exact .inr (by omega)
                · exact .inr (by omega)
              · rcases hi with h | h
                · have := HI.out.low i (.inl h)
                  have hs6 := HS6.out
                  rw [set_size]
                  omega
                · have := HBW.out
                  have hsT := HT.out.size
                  have hB0 := (HH.out.low ib HH.out.fi)
                  omega
          case measure => have := HG.out; omega
    · have hjp : j = p.length := by omega
      subst hjp
      go_wp2_with fail
      go_end0
      refine ⟨rfl, V', ?_, HT.out⟩
      have h := HI.out
      rw [List.take_length] at h
      exact h
end Go.Proofs.Ytaddhackggbdkaa
