/- Index.Add over keys of one kind, walked; conditions: the index lies in the world, the events lie in memory that is none of the index's. -/
import Derived.Test.YtaddhackggbdkaaAddKit
namespace Go.Proofs.Ytaddhackggbdkaa
open Go.RowKit Go.Maps Go.Proofs.YtaddhackggbdkaaW.PrintWords Go.Proofs.YtaddhackggbdkaaW.PrintLast Go.Proofs.YtaddhackggbdkaaW.PrintMore PHistTells
def key23 (x : S39) : Lit := .int .i64 x.f3
set_option maxRecDepth 100000 in
set_option maxHeartbeats 4000000 in
theorem add23 (ib mb B : Nat) (F : Nat → Prop) (l : List S39) (V : Lit → Value) (A : Option Addr) (c : Nat) (p : List S39) (w : World)
    (h : IxAt w 3 73 (.func (.func 35) #[] #[]) F B ib key23 l mb V) (hp : Rd w A p) (hq : ∀ ad, A = some ad → p ≠ [] → ¬ F ad.block) (hwf : ∀ e ∈ p, (Lit.int .i64 e.f3).wf = true) (hl : l.length + p.length ≤ 1000) :
    Calls Try.prog 23 #[.pointer (some ⟨ib, 0, none⟩), .slice A p.length c] w fun e w' => e = .returned (.tuple #[]) ∧ ∃ V', IxAt w' 3 73 (.func (.func 35) #[] #[]) (fun i => F i ∨ (w.heap.size ≤ i ∧ i < w'.heap.size)) B ib key23 (l ++ p) mb V' ∧ Turn w w' F := by
  have HH := Lib.hid h
  have HP := Lib.hid hp
  have HQ := Lib.hid hq
  have HWF := Lib.hid hwf
  have HL := Lib.hid hl
  clear h hp hq hwf hl
  go_enter Try.func23, Try.ntmps23
  go_wp2_with fail
  go_loopg [11] p.length (fun g i wr => ∃ j, j ≤ p.length ∧ g + j = p.length ∧ i = .int .i64 j ∧ Hid (Turn w wr F) ∧ ∃ V', Hid (IxAt wr 3 73 (.func (.func 35) #[] #[]) (fun i => F i ∨ (w.heap.size ≤ i ∧ i < wr.heap.size)) B ib key23 (l ++ p.take j) mb V'))
  case atStart => exact ⟨0, Nat.zero_le _, rfl, rfl, Lib.hid (Turn.refl _ _), V, Lib.hid (by
    have h := HH.out
    rw [List.take_zero, List.append_nil]
    exact ⟨h.hd, h.mp, h.own, h.apart, .inl h.fi, .inl h.fm, fun kl g hg => .inl (h.fr kl g hg), fun i hi => by
      rcases hi with hi | hi
      · exact h.low i hi
      · omega, h.ne⟩)⟩
  case round =>
    obtain ⟨j, hj, hg, rfl, HT, V', HI⟩ := hrel
    have HG := Lib.hid hg
    clear hg
    by_cases hlt : j < p.length
    · have hll : (l ++ p.take j).length ≤ 1000 := by
        have := HL.out
        rw [List.length_append, List.length_take]
        omega
      have hrd : Rd wr A p := HP.out.mono HT.out.size fun ad e hne => HT.out.block _ (by
        rcases HP.out with h | ⟨ad', e', h, _⟩
        · exact absurd h hne
        · rw [e] at e'
          injection e' with e'
          subst e'
          exact h) (HQ.out ad e hne)
      obtain ⟨ad, e, hadlt, c0, c1, c2, c3, c4⟩ := event_at hrd (by have := HL.out; omega) hlt
      have HWX := Lib.hid (HWF.out _ (List.getElem_mem hlt))
      have HTK : Hid (l ++ p.take (j + 1) = (l ++ p.take j) ++ [p[j]]) := Lib.hid (by rw [List.take_add_one, List.getElem?_eq_getElem hlt, List.append_assoc]; rfl)
      generalize hx : p[j] = x at *
      have HLL := Lib.hid hll
      generalize hL : l ++ p.take j = L at *
      clear hrd hx hL hll
      subst e
      obtain ⟨W1, hW1⟩ : ∃ W1, wr.alloc (.cells #[.int .i64 x.f0, .bool x.f1, .int .i64 x.f2, .int .i64 x.f3, .int .i64 x.f4] 39) = W1 := ⟨_, rfl⟩
      have HB1 : Hid (Below wr.heap.size wr W1) := Lib.hid (by rw [← hW1]; exact (Below.refl _ _).alloc (Nat.le_refl _) _)
      have HE1 : Hid (W1.heap[wr.heap.size]? = some (.cells #[.int .i64 x.f0, .bool x.f1, .int .i64 x.f2, .int .i64 x.f3, .int .i64 x.f4] 39 (0, 0))) := Lib.hid (by rw [← hW1]; exact heap_alloc_new wr _)
      have HS : Hid (∀ w', Below W1.heap.size W1 w' → w'.cell? ⟨ib, 0, none⟩ = some (.func (.func 35) #[] #[]) ∧ w'.cell? ⟨wr.heap.size, 0, none⟩ = some (.int .i64 x.f0) ∧ w'.cell? ⟨wr.heap.size, 1, none⟩ = some (.bool x.f1) ∧ w'.cell? ⟨wr.heap.size, 2, none⟩ = some (.int .i64 x.f2) ∧ w'.cell? ⟨wr.heap.size, 3, none⟩ = some (.int .i64 x.f3) ∧ w'.cell? ⟨wr.heap.size, 4, none⟩ = some (.int .i64 x.f4)) := Lib.hid (fun w' hb =>
        ⟨cell_of (HI.out.below (HB1.out.trans (hb.mono HB1.out.size))).hd 0, five ((hb.block _ (Array.getElem?_eq_some_iff.1 HE1.out).1).trans HE1.out)⟩)
      go_wp2_with fail
      go_region_held3 (fun w' => w'.cell? ⟨ib, 0, none⟩ = some (.func (.func 35) #[] #[]) ∧ w'.cell? ⟨wr.heap.size, 0, none⟩ = some (.int .i64 x.f0) ∧ w'.cell? ⟨wr.heap.size, 1, none⟩ = some (.bool x.f1) ∧ w'.cell? ⟨wr.heap.size, 2, none⟩ = some (.int .i64 x.f2) ∧ w'.cell? ⟨wr.heap.size, 3, none⟩ = some (.int .i64 x.f3) ∧ w'.cell? ⟨wr.heap.size, 4, none⟩ = some (.int .i64 x.f4))
        (first | exact HS.out _ H2.out | exact HS.out _ (Below.refl _ _).drew)
        (first
        | (go_at_call 35; refine (key35 x _).mono ?_; rintro e w2 ⟨rfl, hb2⟩; have H2 := Lib.hid ((Below.refl W1.heap.size W1).drew.trans hb2); clear hb2))
      go_wp2_with fail
      have HB2 : Hid (Below wr.heap.size wr w2) := Lib.hid (HB1.out.trans (H2.out.mono HB1.out.size))
      have hs2 : Hid (wr.heap.size < w2.heap.size) := Lib.hid (Nat.lt_of_lt_of_le (Array.getElem?_eq_some_iff.1 HE1.out).1 H2.out.size)
      have HS5 : Hid (∀ w' : World, (w'.heap[ib]? = w2.heap[ib]? ∧ w'.heap[wr.heap.size]? = w2.heap[wr.heap.size]?) → w'.cell? ⟨ib, 1, none⟩ = some (.map (some mb)) ∧ w'.cell? ⟨wr.heap.size, 0, none⟩ = some (.int .i64 x.f0) ∧ w'.cell? ⟨wr.heap.size, 1, none⟩ = some (.bool x.f1) ∧ w'.cell? ⟨wr.heap.size, 2, none⟩ = some (.int .i64 x.f2) ∧ w'.cell? ⟨wr.heap.size, 3, none⟩ = some (.int .i64 x.f3) ∧ w'.cell? ⟨wr.heap.size, 4, none⟩ = some (.int .i64 x.f4)) := Lib.hid (fun w' hb =>
        ⟨cell_of (hb.1.trans (HI.out.below HB2.out).hd) 1, five (hb.2.trans ((H2.out.block _ (Array.getElem?_eq_some_iff.1 HE1.out).1).trans HE1.out))⟩)
      have M2 : Hid (MapV w2.drew 3 mb L.length V') := Lib.hid (HI.out.below HB2.out).mp
      have HB3 : Hid (Below wr.heap.size wr (w2.alloc (.cells #[.int .i64 x.f0, .bool x.f1, .int .i64 x.f2, .int .i64 x.f3, .int .i64 x.f4] 39)).drew) := Lib.hid (Below.alloc (w := w2) HB2.out HB2.out.size _).drew
      have M3 : Hid (MapV (w2.alloc (.cells #[.int .i64 x.f0, .bool x.f1, .int .i64 x.f2, .int .i64 x.f3, .int .i64 x.f4] 39)).drew 3 mb L.length V') := Lib.hid (HI.out.below HB3.out).mp
      have HO3 := Lib.hid (HI.out.own1 HB3.out (key23 x))
      have HR3 : Hid (Rd (w2.alloc (.cells #[.int .i64 x.f0, .bool x.f1, .int .i64 x.f2, .int .i64 x.f3, .int .i64 x.f4] 39)).drew (some ⟨w2.heap.size, 0, none⟩) [x]) := Lib.hid (rd_one (heap_alloc_new w2 _))
      have HK3 : Hid ((w2.alloc (.cells #[.int .i64 x.f0, .bool x.f1, .int .i64 x.f2, .int .i64 x.f3, .int .i64 x.f4] 39)).drew.heap[ib]? = w2.heap[ib]? ∧ (w2.alloc (.cells #[.int .i64 x.f0, .bool x.f1, .int .i64 x.f2, .int .i64 x.f3, .int .i64 x.f4] 39)).drew.heap[wr.heap.size]? = w2.heap[wr.heap.size]?) := Lib.hid ⟨Below.heap_alloc w2 _ _ (Nat.lt_of_lt_of_le (HI.out.low ib HI.out.fi).2 HB2.out.size), Below.heap_alloc w2 _ _ hs2.out⟩
      have HGL := Lib.hid (Nat.le_trans (grp_len key23 L (key23 x)) HLL.out)
      have HBW : Hid (B ≤ wr.heap.size) := Lib.hid (by have := HI.out.low ib HI.out.fi; omega)
      have hl2 := M2.out.look law3 Try.underlying71 (zero22 _) (keyOf_int_mk Try.underlying3 HWX.out)
      have hl3 := M3.out.look law3 Try.underlying71 (zero22 _) (keyOf_int_mk Try.underlying3 HWX.out)
      clear HE1 HS
      go_region_held3 (fun w' => w'.cell? ⟨ib, 1, none⟩ = some (.map (some mb)) ∧ w'.cell? ⟨wr.heap.size, 0, none⟩ = some (.int .i64 x.f0) ∧ w'.cell? ⟨wr.heap.size, 1, none⟩ = some (.bool x.f1) ∧ w'.cell? ⟨wr.heap.size, 2, none⟩ = some (.int .i64 x.f2) ∧ w'.cell? ⟨wr.heap.size, 3, none⟩ = some (.int .i64 x.f3) ∧ w'.cell? ⟨wr.heap.size, 4, none⟩ = some (.int .i64 x.f4))
        (first | exact HS5.out _ ⟨rfl, rfl⟩ | exact HS5.out _ HK3.out | exact HS5.out _ H5.out.1 | exact HS5.out _ H6.out.1)
        (first
        | (refine step_append_ev rfl _ _ rfl (V' (key23 x)) rfl HO3.out rfl rfl HR3.out (fun e => by cases e) (by have := HGL.out; simp only [List.length_cons, List.length_nil]; omega) (Nat.le_trans HBW.out HB3.out.size) ?_; intro v5 w5 ho5 hg5 hl5; have H5 := Lib.hid (And.intro (HI.out.apart5 HB2.out hs2.out hg5).1 (And.intro ho5 (And.intro hg5 (And.intro hl5 (HI.out.apart5 HB2.out hs2.out hg5).2)))); clear ho5 hg5 hl5; obtain ⟨w6, V6, hrun6, hm6, hg6, hv6, hv6'⟩ := H5.out.2.2.2.2.store (v := v5) law3 Try.underlying71 (by have := HLL.out; unfold maxLen; omega) (keyOf_int_mk Try.underlying3 HWX.out); have H6 := Lib.hid (And.intro (keep6 HI.out HB2.out H5.out (Nat.le_trans (by simp) H5.out.2.2.1.size) hs2.out hg6) (And.intro hm6 (And.intro hg6 (And.intro hv6 hv6')))); clear hm6 hg6 hv6 hv6'))
      all_goals
        have hhd := HI.out.head HB3.out H5.out.2.2.1 H6.out.2.2.1
        have HRD := Lib.hid (HI.out.round (law3.key (keyOf_int_mk Try.underlying3 HWX.out)) HB3.out H5.out.2.2.1 H5.out.2.1 H5.out.2.2.2.1 H6.out.2.2.1 H6.out.2.1 H6.out.2.2.2.1 H6.out.2.2.2.2)
        have c6 := cell_of hhd 2
        have f6 := free_of hhd 2
        have HS6 := Lib.hid (Nat.le_trans HB3.out.size (Nat.le_trans H5.out.2.2.1.size H6.out.2.2.1.size))
        clear hl2 hl3 hrun6 hhd HS5 M2 M3 HO3 HR3 HK3 H5 H6 HB2 HB3 hW1 H2 HB1
        go_wp2_with fail
        have hw7 : wrap64 ((L.length : Int) + 1) = ((L ++ [x]).length : Int) := by
          have := HLL.out
          rw [List.length_append, List.length_singleton]
          unfold wrap64
          omega
        rw [hw7]
        have HRW := HRD.out
        go_roundg (p.length - (j + 1))
        case rel =>
          have hpl := HL.out
          refine ⟨j + 1, by omega, by omega, by rw [show wrap64 ((j : Int) + 1) = ((j + 1 : Nat) : Int) by unfold wrap64; omega], Lib.hid (HT.out.trans HRW.2 fun i hi hF => ?_), V6, Lib.hid ?_⟩
          · rcases hF with h | h
            · exact h
            · omega
          · rw [HTK.out]
            refine HRW.1.widen (fun i hi => ?_) (fun i hi => ?_)
            · rw [set_size]
              have hs6 := HS6.out
              have hsT := HT.out.size
              rcases hi with (h | h) | h
              · exact .inl h
              · exact .inr (by omega)
              · exact .inr (by omega)
            · rcases hi with h | h
              · have := HI.out.low i (.inl h)
                have hs6 := HS6.out
                rw [set_size]
                omega
              · have := HBW.out
                have hsT := HT.out.size
                have hB0 := (HH.out.low ib HH.out.fi)
                omega
        case measure => have := HG.out; omega
    · have hjp : j = p.length := by omega
      subst hjp
      go_wp2_with fail
      go_end0
      refine ⟨rfl, V', ?_, HT.out⟩
      have h := HI.out
      rw [List.take_length] at h
      exact h
end Go.Proofs.Ytaddhackggbdkaa
