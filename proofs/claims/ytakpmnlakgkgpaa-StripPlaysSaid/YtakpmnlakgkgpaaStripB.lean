/- The program's strip, walked: slices.Clone, Read, Write, Crash; conditions: the strip lies in the world, its bytes in a row of its own; what is written lies in memory that is none of the strip's. -/
import Derived.Test.YtakpmnlakgkgpaaStripA
import Derived.Deep.RegionHeld3
namespace Go.Proofs.Ytakpmnlakgkgpaa
open Go.RowKit

/-- The cells at a hold the bytes l. -/
def Src (w : World) (a : Option Addr) (l : List UInt8) : Prop := (a = none ∧ l = []) ∨ ∃ ad, a = some ad ∧ ∀ j u, (bys l)[j]? = some u → w.cell? (ad.add j) = some u
theorem own_src {w : World} {N : Nat} {ao : Option Addr} {n cp : Nat} {l : List UInt8} (h : w.ownsRow N 5 1 (.slice ao n cp) n (bys l)) : Src w ao l := by
  rcases h.2 with ⟨hv, h0⟩ | ⟨g, cap, cur, hv, hb, hh, h1, h2, h3, h4⟩
  · injection hv with e1 _ _
    have := h.1
    rw [bys_length] at this
    exact .inl ⟨e1, List.length_eq_zero_iff.1 (by omega)⟩
  · injection hv with e1 _ _
    refine .inr ⟨_, e1, fun j u hj => ?_⟩
    rw [cell_at hh]
    have hjl : j < (bys l).length := (List.getElem?_eq_some_iff.1 hj).1
    rw [h.1] at hjl
    rw [← h4, List.getElem?_take_of_lt hjl] at hj
    simpa using hj
theorem Src.take {w : World} {a : Option Addr} {l : List UInt8} (h : Src w a l) (n : Nat) : Src w a (l.take n) := by
  rcases h with ⟨e, rfl⟩ | ⟨ad, e, h⟩
  · exact .inl ⟨e, by simp⟩
  · refine .inr ⟨ad, e, fun j u hj => h j u ?_⟩
    rw [bys_take, List.getElem?_take] at hj
    split at hj
    · exact hj
    · cases hj
theorem Src.mono {w w' : World} {a : Option Addr} {l : List UInt8} (h : Src w a l) (hk : ∀ ad j u, a = some ad → l ≠ [] → w.cell? (ad.add j) = some u → w'.cell? (ad.add j) = some u) : Src w' a l := by
  rcases h with h | ⟨ad, e, h⟩
  · exact .inl h
  · exact .inr ⟨ad, e, fun j u hj => hk ad j u e (by rintro rfl; simp [bys] at hj) (h j u hj)⟩
theorem empty_own (w : World) : (w.alloc (.cells #[] 5)).ownsRow w.heap.size 5 1 (.slice (some ⟨w.heap.size, 0, none⟩) 0 0) 0 [] :=
  ⟨rfl, .inr ⟨w.heap.size, 0, #[], rfl, Nat.le_refl _, heap_alloc_new w _, Nat.le_refl _, by unfold maxLen; omega, rfl, rfl⟩⟩
set_option maxHeartbeats 400000 in
/-- slices.Clone: the same bytes in new memory. -/
theorem clone_calls (a : Option Addr) (n c : Nat) (l : List UInt8) (w : World) (hl : l.length = n) (hs : Src w a l) (hb : l.length ≤ 140737488351232) :
    Calls Try.prog 26 #[.slice a n c] w fun e w' => ∃ rv, e = .returned rv ∧ w'.ownsRow w.heap.size 5 1 rv l.length (bys l) ∧ Below w.heap.size w w' := by
  obtain ⟨i0, hi, hz0, hz1, hz2⟩ := info_parts info5
  have hnil := fun (w : World) (a : Option Addr) (n c : Nat) => Lib.run_eql_slice_nil (P := Try.prog) w 26 5 a n c 0 0 Try.underlying26
  subst hl
  rcases hs with ⟨rfl, rfl⟩ | ⟨ad, rfl, hsrc⟩
  · go_enter Try.func26, Try.ntmps26
    go_wp2
    go_ret
    exact ⟨_, rfl, World.ownsRow_nil _ _ _ _, Below.refl _ _⟩
  · have hnews : Hid (∀ j u, (bys l)[j]? = some u → (w.alloc (.cells #[] 5)).cell? (ad.add j) = some u) := Lib.hid (fun j u hj => by
      have := hsrc j u hj
      rw [World.cell?_of_block (Below.heap_alloc w _ _ (lt_of_cell this))]
      exact this)
    have HE := Lib.hid (empty_own w)
    clear hsrc
    go_enter Try.func26, Try.ntmps26
    go_wp2_with (at_builtin; refine wpList_append_own_at _ rfl _ _ 26 rfl w.heap.size 5 i0 (.int .u8 0) 1 1 Try.underlying26 hi hz0 hz1 hz2 rfl (by decide) _ _ _ rfl HE.out ad l.length c (bys l) rfl (by rw [bys_length]; omega) hnews.out (bys_one l) (by unfold maxLen; omega) (by omega) (by simp) ?_; intro v' w2 hown2 hgr hiff hat; have HS := Lib.hid (And.intro hown2 hgr); clear hown2 hgr hiff hat)
    go_ret
    refine ⟨_, rfl, ?_, ?_⟩
    · have := HS.out.1
      simpa using this
    · exact below_only ((Below.refl _ _).alloc (Nat.le_refl _) _) HS.out.2 (fun i e => by injection e with e; exact Nat.le_of_eq e) (by simp)
theorem read_nil (w : World) : Calls Try.prog 11 #[.pointer none] w fun e w' => e = .returned (.slice none 0 0) ∧ w = w' := by
  go_enter Try.func11, Try.ntmps11
  go_wp2
  go_ret
  exact ⟨rfl, rfl⟩
theorem read_calls (N q : Nat) (v : Value) (S : St) (w : World) (h : SAt w N q v S) (hf : S.Fit) :
    Calls Try.prog 11 #[.pointer (some ⟨q, 0, none⟩)] w fun e w' => ∃ a c, e = .returned (.slice a S.L.length c) ∧ w'.ownsRow w.heap.size 5 1 (.slice a S.L.length c) S.L.length (bys S.L) ∧ Below w.heap.size w w' := by
  obtain ⟨ao, cp, hv⟩ := own_shape h.2
  obtain ⟨c0, c1, c2, c3, c4⟩ := h.cells
  rw [hv] at c1
  have hsrc := h.2
  rw [hv] at hsrc
  have HS := Lib.hid (own_src hsrc)
  have hle := hf.len
  have hrm := hf.room
  clear hsrc h hv c0 c2 c3 c4
  go_enter Try.func11, Try.ntmps11
  go_wp2_with fail
  refine (clone_calls ao S.L.length cp S.L w rfl HS.out (by omega)).mono ?_
  rintro e w1 ⟨rv, rfl, ho, hb⟩
  obtain ⟨a, c, rfl⟩ := own_shape ho
  have H1 := Lib.hid (And.intro ho hb)
  clear ho hb
  go_wp2_with fail
  go_ret
  exact ⟨a, c, rfl, H1.out⟩
theorem write_nil (pv : Value) (w : World) : Calls Try.prog 10 #[.pointer none, pv] w fun e w' => e = .returned (.int .i64 11) ∧ w = w' := by
  go_enter Try.func10, Try.ntmps10
  go_wp2_with fail
  refine (lives_nil w).mono ?_
  rintro e w1 ⟨rfl, rfl⟩
  go_wp2_with fail
  go_ret
  exact ⟨rfl, rfl⟩
/-- What Write leaves where it writes. -/
theorem write_after {w w2 : World} {N q : Nat} {v v' : Value} {S : St} {p : List UInt8} (h : SAt w N q v S) (hown : w2.ownsRow N 5 1 v' (S.L.length + p.length) (bys S.L ++ bys p)) (hgr : w.grownBy w2 v.ownBlock)
    (hat : v'.ownBlock = v.ownBlock ∨ v'.ownBlock = some w.heap.size) :
    SAt (w2.setCell ⟨q, 1, none⟩ v') N q v' { S with L := S.L ++ p } ∧ Step w (w2.setCell ⟨q, 1, none⟩ v') q v v' ∧ w2.cell? ⟨q, 1, none⟩ = some v ∧ w2.frozen? ⟨q, 1, none⟩ = false := by
  have hq2 : w2.heap[q]? = some (.cells #[.int .i64 (S.room : Int), v, .int .i64 (S.safe : Int), .bool S.dead, .int .i64 S.fuse] 48 (0, 0)) := by
    rw [hgr.block q h.lt (fun e => h.ne q e.symm rfl)]
    exact h.1
  have hnq : ∀ g, v'.ownBlock = some g → g ≠ q := fun g hg => by
    obtain ⟨_, cur, hh⟩ := own_info hown hg
    exact tag_ne hh hq2 (by decide)
  refine ⟨⟨by simpa using blk_set hq2 1 v', ?_⟩, ⟨hgr.os, hgr.tape, hgr.output, by rw [set_size]; exact hgr.size, fun i hi hiq hiv => by rw [set_other _ _ _ _ hiq]; exact hgr.block i hi hiv, ?_⟩, cell_of hq2 1, free_of hq2 1⟩
  · rw [bys_append, List.length_append]
    exact own_stay hown fun g hg => set_other _ _ _ _ (hnq g hg)
  · rcases hat with e | e
    · exact .inl e
    · exact .inr fun g hg => by rw [e] at hg; injection hg with hg; omega
set_option maxHeartbeats 1000000 in
theorem write_calls (N q : Nat) (v : Value) (S : St) (a : Option Addr) (c : Nat) (p : List UInt8) (w : World) (h : SAt w N q v S) (hf : S.Fit) (hp : Src w a p) (ha : ∀ ad, a = some ad → p ≠ [] → ad.block ≠ q ∧ some ad.block ≠ v.ownBlock) (hz : a = none → c = 0) (hlen : p.length ≤ 140737488351232) (hN : N ≤ w.heap.size) :
    Calls Try.prog 10 #[.pointer (some ⟨q, 0, none⟩), .slice a p.length c] w fun e w' => e = .returned (.int .i64 (S.write p).2) ∧ ∃ v', SAt w' N q v' (S.write p).1 ∧ Step w w' q v v' := by
  obtain ⟨i0, hi, hz0, hz1, hz2⟩ := info_parts info5
  cases hl : S.live with
  | false =>
    have HR : Hid (S.write p = (S.tick, 11)) := Lib.hid (by simp [St.write, hl])
    go_enter Try.func10, Try.ntmps10
    go_wp2_with fail
    refine (lives_no N q v S w h hl).mono ?_
    rintro e w1 ⟨rfl, h1, k1⟩
    have H1 := Lib.hid (And.intro h1 k1)
    clear h1 k1 hl
    go_wp2_with fail
    go_ret
    rw [HR.out]
    exact ⟨rfl, v, H1.out⟩
  | true =>
    have hle := hf.len
    have hrm := hf.room
    go_enter Try.func10, Try.ntmps10
    go_wp2_with fail
    refine (lives_yes N q v S w h hf hl).mono ?_
    rintro e w1 ⟨rfl, h1, k1⟩
    obtain ⟨ao, cp, hv⟩ := own_shape h1.2
    have hL := tick_L S
    have hR := tick_room S
    have hW := fun (h : S.room < S.L.length + p.length) => (show S.write p = (S.tick, 8) by simp [St.write, hl, h])
    have hW' := fun (h : ¬ S.room < S.L.length + p.length) => (show S.write p = ({ S.tick with L := S.tick.L ++ p }, 0) by simp [St.write, hl, h, hL])
    have HW := Lib.hid hW
    have HW' := Lib.hid hW'
    rw [← hL, ← hR] at HW HW'
    rw [← hL, ← hR] at hle
    rw [← hR] at hrm
    clear hW hW' hL hR hl
    generalize S.tick = T at *
    obtain ⟨c0, c1, c2, c3, c4⟩ := h1.cells
    rw [hv] at c1
    have HK1 := Lib.hid k1
    have H1 := Lib.hid h1
    have HV := Lib.hid hv
    by_cases hfull : T.room < T.L.length + p.length
    · clear h1 k1 hv c2 c3 c4
      go_wp2_with fail
      go_quiet (fail)
      go_wp2_with fail
      go_ret
      rw [HW.out hfull]
      exact ⟨rfl, v, H1.out.drewN _, HK1.out.drewN _⟩
    · have hNs : N ≤ w1.heap.size := Nat.le_trans hN k1.size
      have hsrc : Src w1 a p := hp.mono (fun ad j u e hne hc => k1.cell hc (by rw [add_block]; exact (ha ad e hne).1) (by rw [add_block]; exact (ha ad e hne).2))
      have hown : w1.ownsRow N 5 1 (.slice ao T.L.length cp) T.L.length (bys T.L) := by rw [← hv]; exact h1.2
      have HO := Lib.hid hown
      rcases hsrc with ⟨rfl, rfl⟩ | ⟨ad, rfl, hsrc⟩
      · obtain rfl := hz rfl
        have hA : ∀ n, SAt ((w1.drewN n).setCell ⟨q, 1, none⟩ v) N q v { T with L := T.L ++ [] } ∧ Step (w1.drewN n) ((w1.drewN n).setCell ⟨q, 1, none⟩ v) q v v := fun n => by
          have := write_after (w := w1.drewN n) (w2 := w1.drewN n) (v' := v) (p := []) (h1.drewN n) (by simp [bys]; exact h1.2) (only_refl _ _) (.inl rfl)
          exact ⟨this.1, this.2.1⟩
        rw [hv] at hA
        have HA := Lib.hid hA
        have f1 := h1.free 1
        clear h1 k1 hv c2 c3 c4 hA hown
        go_wp2_with fail
        go_quiet (fail)
        go_wp2_with (at_builtin; refine wpList_append_own_none rfl _ _ 26 rfl N 5 i0 1 Try.underlying26 hi _ _ _ rfl (show (w1.drewN nq).ownsRow _ _ _ _ _ _ from HO.out) rfl ?_)
        go_ret
        rw [HW'.out hfull]
        refine ⟨rfl, _, (HA.out nq).1, ?_⟩
        rw [← HV.out]
        refine Step.trans (HK1.out.drewN nq) ?_
        rw [HV.out]
        exact (HA.out nq).2
      · have HSRC := Lib.hid hsrc
        clear h1 k1 hv c2 c3 c4 hsrc hown
        go_wp2_with fail
        go_quiet (fail)
        go_wp2_with (at_builtin; refine wpList_append_own_at _ rfl _ _ 26 rfl N 5 i0 (.int .u8 0) 1 1 Try.underlying26 hi hz0 hz1 hz2 rfl (by decide) _ _ _ rfl (show (w1.drewN nq).ownsRow _ _ _ _ _ _ from HO.out) ad p.length c (bys p) rfl (by rw [bys_length]; omega) HSRC.out (bys_one p) (by unfold maxLen; omega) (by omega) (by exact hNs) ?_; intro v' w2 hown2 hgr hiff hat; rw [← HV.out] at hgr hat; obtain ⟨hA1, hA2, hd1, hf1⟩ := write_after (H1.out.drewN nq) hown2 hgr hat; obtain ⟨ao', cp', hv'⟩ := own_shape hown2; have HA := Lib.hid (And.intro hA1 hA2); have HV' := Lib.hid hv'; subst hv'; clear hown2 hgr hiff hat hA1 hA2)
        go_ret
        rw [HW'.out hfull]
        exact ⟨rfl, _, HA.out.1, Step.trans (HK1.out.drewN nq) HA.out.2⟩
end Go.Proofs.Ytakpmnlakgkgpaa
