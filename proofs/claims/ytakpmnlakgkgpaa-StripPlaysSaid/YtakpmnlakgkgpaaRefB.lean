/- The answer's strip, walked: Write, Crash; conditions: the strip lies in the world, its bytes in a row of its own; what is written lies in memory that is none of the strip's. -/
import Derived.Test.YtakpmnlakgkgpaaRefA
import Derived.Deep.RegionHeld3
namespace Go.Proofs.Ytakpmnlakgkgpaa
open Go.RowKit
theorem run_append_src {w : World} {base n c : Nat} {v : Value} {L p : List UInt8} {a : Option Addr} (ty : TypeId) (hown : w.ownsRow base 5 1 v n (bys L)) (hp : Src w a p) (hz : a = none → c = 0)
    (h63 : n + p.length ≤ 140737488355328) (hbase : base ≤ w.heap.size) :
    ∃ v' w', (Builtin.append_ #[26, 26] ty #[v, .slice a p.length c]).run Try.prog w = .ok v' w' ∧ w'.ownsRow base 5 1 v' (n + p.length) (bys (L ++ p)) ∧ w.grownBy w' v.ownBlock ∧ (v'.ownBlock = v.ownBlock ∨ v'.ownBlock = some w.heap.size) := by
  obtain ⟨i0, hi, hz0, hz1, hz2⟩ := info_parts info5
  rcases hp with ⟨rfl, rfl⟩ | ⟨ad, rfl, hsrc⟩
  · obtain rfl := hz rfl
    refine ⟨v, w, run_append_owned_none (P := Try.prog) (w := w) base 26 ty 5 i0 1 Try.underlying26 hi v n (bys L) hown, by simpa using hown, only_refl _ _, .inl rfl⟩
  · obtain ⟨v', w', hr, h2, h3, h4, h5⟩ := run_append_own_at (P := Try.prog) w base 26 ty 5 i0 (.int .u8 0) 1 1 Try.underlying26 hi hz0 hz1 hz2 rfl (by decide) v n (bys L) hown ad p.length c (bys p) (by rw [bys_length]; omega) hsrc (bys_one p) (by unfold maxLen; omega) (by omega) hbase
    exact ⟨v', w', hr, by rw [bys_append]; exact h2, h3, h5⟩
theorem wpList_append_src {w : World} {ops : Array Oper} {rest : List Oper} {o : Oper} {ac : Act} {Q : Exit → Act → World → Prop} (hgd : o.guard = none) (s x : Operand)
    (ho : o.op = .call { callee := .builtin .append, args := #[s, x], argTypes := #[26, 26] }) {base n c : Nat} {L p : List UInt8} {a : Option Addr}
    (v : Value) (hs : ac.eval s = v) (hown : w.ownsRow base 5 1 v n (bys L)) (hx : ac.eval x = .slice a p.length c) (hp : Src w a p) (hz : a = none → c = 0)
    (h63 : n + p.length ≤ 140737488355328) (hbase : base ≤ w.heap.size)
    (h : ∀ v' w', w'.ownsRow base 5 1 v' (n + p.length) (bys (L ++ p)) → w.grownBy w' v.ownBlock → (v'.ownBlock = v.ownBlock ∨ v'.ownBlock = some w.heap.size) → wpList Try.prog ops Q rest (ac.put o.dst v') w') :
    wpList Try.prog ops Q (o :: rest) ac w := by
  refine wpList_plain hgd fun K hK => ?_
  obtain ⟨v', w', hr, h2, h3, h5⟩ := run_append_src o.type hown hp hz h63 hbase
  unfold Oper.wp execOp
  simp only [ho, resolve, invoke, builtin, Sem.run_bind, Sem.run_pure, Result.andThen_ok, List.map_toArray, List.map_cons, List.map_nil, hs, hx, hr]
  exact hK _ _ (h v' w' h2 h3 h5)
theorem step_append_src {w : World} {ops : Array Oper} {o : Oper} {ac : Act} {K : Act → World → Prop} {Q : Exit → Act → World → Prop} {E : Prop} (hgd : o.guard = none) (s x : Operand)
    (ho : o.op = .call { callee := .builtin .append, args := #[s, x], argTypes := #[26, 26] }) {base n c m : Nat} {L p : List UInt8} {a : Option Addr}
    (v : Value) (hs : ac.eval s = v) (hown : w.ownsRow base 5 1 v n (bys L)) (hx : ac.eval x = .slice a m c) (hm : p.length = m) (hp : Src w a p) (hz : a = none → c = 0)
    (h63 : n + p.length ≤ 140737488355328) (hbase : base ≤ w.heap.size)
    (h : ∀ v' w', w'.ownsRow base 5 1 v' (n + p.length) (bys (L ++ p)) → w.grownBy w' v.ownBlock → (v'.ownBlock = v.ownBlock ∨ v'.ownBlock = some w.heap.size) → K (ac.put o.dst v') w') :
    if Region.wanted o (yielded ops ac.tmps) = true then Oper.wp Try.prog o ac w K Q else E := by
  have hw : Region.wanted o (yielded ops ac.tmps) = true := by simp [Region.wanted, hgd]
  rw [if_pos hw]
  subst hm
  obtain ⟨v', w', hr, h2, h3, h5⟩ := run_append_src o.type hown hp hz h63 hbase
  unfold Oper.wp execOp
  simp only [ho, resolve, invoke, builtin, Sem.run_bind, Sem.run_pure, Result.andThen_ok, List.map_toArray, List.map_cons, List.map_nil, hs, hx, hr]
  exact h v' w' h2 h3 h5
/-- Behind the two appends: the store. -/
theorem rwrite_after {w1 w3 : World} {N x n : Nat} {v v3 : Value} {S : St} {L : List UInt8} (h : XAt w1 N x v S) (hb : Below w1.heap.size w1 w3) (ho : w3.ownsRow w1.heap.size 5 1 v3 n (bys L)) (hn : n = L.length) (hN : N ≤ w1.heap.size) :
    XAt (w3.setCell ⟨x, 0, none⟩ v3) N x v3 { S with L := L } ∧ Step w1 (w3.setCell ⟨x, 0, none⟩ v3) x v v3 ∧ w3.cell? ⟨x, 0, none⟩ = some v ∧ w3.frozen? ⟨x, 0, none⟩ = false := by
  subst hn
  have hx3 : w3.heap[x]? = some (.cells #[v, .int .i64 (S.safe : Int), .int .i64 (S.room : Int), .int .i64 S.fuse, .bool S.dead] 43 (0, 0)) := by
    rw [hb.block x h.lt]
    exact h.1
  refine ⟨⟨by rw [blk_set hx3 0]; rfl, own_base (own_stay ho fun g hg => set_other _ _ _ _ ?_) hN⟩, ⟨hb.os, hb.tape, hb.output, by rw [set_size]; exact hb.size, fun i hi hix hiv => by rw [set_other _ _ _ _ hix]; exact hb.block i hi, .inr fun g hg => (ho.lt g hg).1⟩, cell_of hx3 0, free_of hx3 0⟩
  have := (ho.lt g hg).1
  have := h.lt
  show g ≠ x
  omega
theorem Src.bel {w w' : World} {a : Option Addr} {p : List UInt8} (h : Src w a p) (hb : Below w.heap.size w w') : Src w' a p := h.mono fun _ _ _ _ _ hc => (hb.cell (lt_of_cell hc)).trans hc
theorem Src.alloc {w : World} {a : Option Addr} {p : List UInt8} (h : Src w a p) (o : Obj) : Src (w.alloc o) a p := h.bel ((Below.refl _ _).alloc (Nat.le_refl _) o)
theorem Src.drewN {w : World} {a : Option Addr} {p : List UInt8} (h : Src w a p) (n : Nat) : Src (w.drewN n) a p := h
theorem grown_below {B : Nat} {a w w' : World} {v : Value} {e : TypeId} {n : Nat} {xs : List Value} (h : Below B a w) (hg : w.grownBy w' v.ownBlock) (ho : w.ownsRow B e 1 v n xs) (hB : B ≤ w.heap.size) : Below B a w' :=
  below_only h hg (fun i e => (ho.lt i e).1) hB
set_option maxHeartbeats 1000000 in
theorem rwrite_calls (N x : Nat) (v : Value) (S : St) (a : Option Addr) (c : Nat) (p : List UInt8) (w : World) (h : XAt w N x v S) (hf : S.Fit) (hp : Src w a p) (ha : ∀ ad, a = some ad → p ≠ [] → ad.block ≠ x ∧ some ad.block ≠ v.ownBlock) (hz : a = none → c = 0) (hlen : p.length ≤ 140737488351232) (hN : N ≤ w.heap.size) :
    Calls Try.prog 18 #[.pointer (some ⟨x, 0, none⟩), .slice a p.length c] w fun e w' => e = .returned (.int .i64 (S.rwrite p).2) ∧ ∃ v', XAt w' N x v' (S.rwrite p).1 ∧ Step w w' x v v' := by
  cases hl : S.live with
  | false =>
    have HR : Hid (S.rwrite p = (S.rtick, 11)) := Lib.hid (by simp [St.rwrite, hl])
    go_enter Try.func18, Try.ntmps18
    go_wp2_with fail
    refine (alive_calls N x v S w h hf).mono ?_
    rw [hl]
    rintro e w1 ⟨rfl, h1, k1⟩
    have H1 := Lib.hid (And.intro h1 k1)
    clear h1 k1 hl
    go_wp2_with fail
    go_ret
    rw [HR.out]
    exact ⟨rfl, v, H1.out⟩
  | true =>
    have hle := hf.len
    have hrm := hf.room
    go_enter Try.func18, Try.ntmps18
    go_wp2_with fail
    refine (alive_calls N x v S w h hf).mono ?_
    rw [hl]
    rintro e w1 ⟨rfl, h1, k1⟩
    obtain ⟨ao, cp, hv⟩ := own_shape h1.2
    have hL := rtick_L S
    have hR := rtick_room S
    have hW := fun (h : S.room < S.L.length + p.length) => (show S.rwrite p = (S.rtick, 8) by simp [St.rwrite, hl, h])
    have hW' := fun (h : ¬ S.room < S.L.length + p.length) => (show S.rwrite p = ({ S.rtick with L := S.rtick.L ++ p }, 0) by simp [St.rwrite, hl, h, hL])
    have HW := Lib.hid hW
    have HW' := Lib.hid hW'
    rw [← hL, ← hR] at HW HW'
    rw [← hL, ← hR] at hle
    rw [← hR] at hrm
    clear hW hW' hL hR hl
    generalize S.rtick = T at *
    obtain ⟨c0, c1, c2, c3, c4⟩ := h1.cells
    rw [hv] at c0
    have HK1 := Lib.hid k1
    have H1 := Lib.hid h1
    have HV := Lib.hid hv
    by_cases hfull : T.room < T.L.length + p.length
    · clear h1 k1 hv c1 c3 c4
      go_wp2_with fail
      go_quiet (fail)
      go_wp2_with fail
      go_ret
      rw [HW.out hfull]
      exact ⟨rfl, v, H1.out.drewN _, HK1.out.drewN _⟩
    · have hNs : N ≤ w1.heap.size := Nat.le_trans hN k1.size
      have hsrc : Src w1 a p := hp.mono (fun ad j u e hne hc => k1.cell hc (by rw [add_block]; exact (ha ad e hne).1) (by rw [add_block]; exact (ha ad e hne).2))
      have hown : w1.ownsRow N 5 1 (.slice ao T.L.length cp) T.L.length (bys T.L) := by rw [← hv]; exact h1.2
      have HSB : Hid (Src w1 ao T.L ∧ (ao = none → cp = 0)) := Lib.hid ⟨own_src hown, fun e => by
        subst e
        rcases hown.2 with ⟨e, _⟩ | ⟨g, cap, cur, e, _⟩
        · injection e
        · cases e⟩
      have HSP := Lib.hid hsrc
      have HE := Lib.hid (fun n => empty_own (w1.drewN n))
      clear h1 k1 hv c1 c3 c4 hsrc hown
      go_wp2_with fail
      go_quiet (fail)
      have c0' : ((w1.drewN nq).alloc (.cells #[] 5)).cell? ⟨x, 0, none⟩ = some (.slice ao T.L.length cp) := by
        rw [World.cell?_of_block (Below.heap_alloc (w1.drewN nq) _ _ (lt_of_cell (w := w1) c0))]
        exact c0
      clear c0
      go_wp2_with (at_builtin; first
        | (refine wpList_append_src rfl _ _ rfl _ rfl (show (((w1.drewN nq).alloc (.cells #[] 5)).ownsRow w1.heap.size 5 1 _ 0 (bys [])) from HE.out nq) rfl ((HSB.out.1.drewN nq).alloc _) HSB.out.2 (by omega) (by simp) ?_; intro v2 w2 ho2 hg2 hat2; have HB2 := Lib.hid (And.intro (grown_below (below_drewN (Below.refl _ w1) nq |>.alloc (Nat.le_refl _) (.cells #[] 5)) hg2 (HE.out nq) (by simp)) ho2); clear ho2 hg2 hat2)
        | (refine wpList_append_src rfl _ _ rfl _ rfl HB2.out.2 rfl (HSP.out.bel HB2.out.1) hz (by omega) HB2.out.1.size ?_; intro v3 w3 ho3 hg3 hat3; obtain ⟨A1, A2, e1, e2⟩ := rwrite_after H1.out (grown_below HB2.out.1 hg3 HB2.out.2 HB2.out.1.size) ho3 (by simp) hNs; obtain ⟨ao', cp', hv'⟩ := own_shape ho3; subst hv'; simp only [Nat.zero_add] at A1 A2; have HA := Lib.hid (And.intro A1 A2); clear ho3 hg3 hat3 A1 A2; rw [HV.out] at e1))
      go_ret
      rw [HW'.out hfull]
      exact ⟨rfl, _, HA.out.1, Step.trans HK1.out HA.out.2⟩
/-- Behind a crash. -/
theorem rcrash_after {w w2 : World} {S : St} {keep : Int} {v2 : Value} {n wt : Nat} (hk : S.kept keep = wt) (hb : Below w.heap.size w w2) (ho : w2.ownsRow w.heap.size 5 1 v2 n (bys (S.L.take wt))) :
    XAt (w2.alloc (.cells #[v2, .int .i64 (wt : Int), .int .i64 (S.room : Int), .int .i64 (-1), .bool false] 43)) w.heap.size w2.heap.size v2 (S.crash keep) ∧ Below w.heap.size w (w2.alloc (.cells #[v2, .int .i64 (wt : Int), .int .i64 (S.room : Int), .int .i64 (-1), .bool false] 43)) := by
  subst hk
  have hn : n = (S.L.take (S.kept keep)).length := by
    have := ho.1
    rw [bys_length] at this
    omega
  subst hn
  exact ⟨⟨heap_alloc_new _ _, ho.alloc _⟩, hb.alloc hb.size _⟩
set_option maxHeartbeats 2000000 in
theorem rcrash_calls (N x : Nat) (v : Value) (S : St) (keep : Int) (w : World) (h : XAt w N x v S) (hf : S.Fit) :
    Calls Try.prog 24 #[.pointer (some ⟨x, 0, none⟩), .int .i64 keep] w fun e w' => ∃ x2 v', e = .returned (.pointer (some ⟨x2, 0, none⟩)) ∧ w.heap.size ≤ x2 ∧ XAt w' w.heap.size x2 v' (S.crash keep) ∧ Below w.heap.size w w' := by
  have hle := hf.len
  have hrm := hf.room
  have hsf := hf.safe
  obtain ⟨ao, cp, hv⟩ := own_shape h.2
  obtain ⟨c0, c1, c2, c3, c4⟩ := h.cells
  rw [hv] at c0
  have hown := h.2
  rw [hv] at hown
  have hcap : S.L.length ≤ cp := by
    rcases hown.2 with ⟨e, h0⟩ | ⟨g, cap, cur, e, _, _, h1, _⟩
    · omega
    · injection e with _ _ e3
      subst e3
      exact h1
  have HSB : Hid (Src w ao S.L ∧ (ao = none → cp = 0)) := Lib.hid ⟨own_src hown, fun e => by
    subst e
    rcases hown.2 with ⟨e, _⟩ | ⟨g, cap, cur, e, _⟩
    · injection e
    · cases e⟩
  have hlx := h.lt
  have HC : Hid (∀ w' : World, Below w.heap.size w w' → w'.cell? ⟨x, 0, none⟩ = some (.slice ao S.L.length cp) ∧ w'.cell? ⟨x, 2, none⟩ = some (.int .i64 (S.room : Int))) := Lib.hid fun w' hb => ⟨(hb.cell (p := ⟨x, 0, none⟩) hlx).trans c0, (hb.cell (p := ⟨x, 2, none⟩) hlx).trans c2⟩
  clear hown hv h c3 c4
  rcases (show keep < 0 ∨ (0 ≤ keep ∧ keep ≤ (S.L.length : Int) - S.safe) ∨ (0 ≤ keep ∧ (S.L.length : Int) - S.safe < keep) by omega) with hk | ⟨hk0, hk⟩ | ⟨hk0, hk⟩
  · obtain ⟨wt, hwt⟩ : ∃ wt, S.safe = wt := ⟨_, rfl⟩
    have HK : Hid (S.kept keep = wt) := Lib.hid (by unfold St.kept; omega)
    have HWT := Lib.hid hwt
    clear hwt
    go_enter Try.func24, Try.ntmps24
    go_wp2_with fail
    go_quiet (fail)
    have hwt := HWT.out
    subst hwt
    obtain ⟨wt, hwt⟩ : ∃ wt, S.safe = wt := ⟨_, rfl⟩
    rw [hwt] at HK ⊢
    have hw1 : wt ≤ S.L.length := by omega
    have hw2 : (wt : Int) ≤ (cp : Int) := by omega
    have hw0 : (0 : Int) ≤ (wt : Int) := by omega
    have HLEN : Hid ((S.L.take wt).length = wt) := Lib.hid (by rw [List.length_take]; omega)
    clear hwt hk c0 c1 c2
    go_wp2_with fail
    have HE := Lib.hid (empty_own (w.drewN nq).drew)
    have HB1 : Hid (Below w.heap.size w (w.drewN nq).drew) := Lib.hid (below_drewN (below_drewN (Below.refl _ _) nq) 1)
    go_region_held3 (fun w' => w'.cell? ⟨x, 0, none⟩ = some (.slice ao S.L.length cp) ∧ w'.cell? ⟨x, 2, none⟩ = some (.int .i64 (S.room : Int)))
      (first | exact HC.out _ HB1.out | exact HC.out _ (HB1.out.alloc HB1.out.size _) | exact HC.out _ HB2.out.1 | exact HC.out _ (HB2.out.1.alloc HB2.out.1.size _))
      (first
        | (refine step_append_src rfl _ _ rfl _ rfl (show (((w.drewN nq).drew.alloc (.cells #[] 5)).ownsRow w.heap.size 5 1 _ 0 (bys [])) from HE.out) rfl HLEN.out (((HSB.out.1.take wt).bel HB1.out).alloc _) HSB.out.2 (by have := HLEN.out; omega) (by simp) ?_; intro v2 w2 ho2 hg2 hat2; obtain ⟨a2, cp2, hv2⟩ := own_shape ho2; subst hv2; have HB2 := Lib.hid (And.intro (grown_below (HB1.out.alloc HB1.out.size (.cells #[] 5)) hg2 HE.out (by simp)) ho2); clear ho2 hg2 hat2))
    go_wp2_with fail
    go_ret
    obtain ⟨hA, hB⟩ := rcrash_after HK.out HB2.out.1 HB2.out.2
    rw [HLEN.out, Nat.zero_add] at hA hB
    exact ⟨w2.heap.size, _, rfl, HB2.out.1.size, hA, hB⟩
  · obtain ⟨m, rfl⟩ := Int.eq_ofNat_of_zero_le hk0
    obtain ⟨wt, hwt⟩ : ∃ wt, S.safe + m = wt := ⟨_, rfl⟩
    have HK : Hid (S.kept (m : Int) = wt) := Lib.hid (by unfold St.kept; omega)
    have HWT := Lib.hid hwt
    clear hwt
    go_enter Try.func24, Try.ntmps24
    go_wp2_with fail
    go_quiet (fail)
    have hwt := HWT.out
    rw [show (S.safe : Int) + (m : Int) = (wt : Int) from by omega]
    have hw1 : wt ≤ S.L.length := by omega
    have hw2 : (wt : Int) ≤ (cp : Int) := by omega
    have hw0 : (0 : Int) ≤ (wt : Int) := by omega
    have HLEN : Hid ((S.L.take wt).length = wt) := Lib.hid (by rw [List.length_take]; omega)
    clear hwt hk c0 c1 c2
    go_wp2_with fail
    have HE := Lib.hid (empty_own (w.drewN nq).drew)
    have HB1 : Hid (Below w.heap.size w (w.drewN nq).drew) := Lib.hid (below_drewN (below_drewN (Below.refl _ _) nq) 1)
    go_region_held3 (fun w' => w'.cell? ⟨x, 0, none⟩ = some (.slice ao S.L.length cp) ∧ w'.cell? ⟨x, 2, none⟩ = some (.int .i64 (S.room : Int)))
      (first | exact HC.out _ HB1.out | exact HC.out _ (HB1.out.alloc HB1.out.size _) | exact HC.out _ HB2.out.1 | exact HC.out _ (HB2.out.1.alloc HB2.out.1.size _))
      (first
        | (refine step_append_src rfl _ _ rfl _ rfl (show (((w.drewN nq).drew.alloc (.cells #[] 5)).ownsRow w.heap.size 5 1 _ 0 (bys [])) from HE.out) rfl HLEN.out (((HSB.out.1.take wt).bel HB1.out).alloc _) HSB.out.2 (by have := HLEN.out; omega) (by simp) ?_; intro v2 w2 ho2 hg2 hat2; obtain ⟨a2, cp2, hv2⟩ := own_shape ho2; subst hv2; have HB2 := Lib.hid (And.intro (grown_below (HB1.out.alloc HB1.out.size (.cells #[] 5)) hg2 HE.out (by simp)) ho2); clear ho2 hg2 hat2))
    go_wp2_with fail
    go_ret
    obtain ⟨hA, hB⟩ := rcrash_after HK.out HB2.out.1 HB2.out.2
    rw [HLEN.out, Nat.zero_add] at hA hB
    exact ⟨w2.heap.size, _, rfl, HB2.out.1.size, hA, hB⟩
  · obtain ⟨wt, hwt⟩ : ∃ wt, S.L.length = wt := ⟨_, rfl⟩
    have HK : Hid (S.kept keep = wt) := Lib.hid (by unfold St.kept; omega)
    have HWT := Lib.hid hwt
    clear hwt
    go_enter Try.func24, Try.ntmps24
    go_wp2_with fail
    go_quiet (fail)
    have hwt := HWT.out
    rw [show (S.safe : Int) + ((S.L.length : Int) - (S.safe : Int)) = (wt : Int) from by omega]
    have hw1 : wt ≤ S.L.length := by omega
    have hw2 : (wt : Int) ≤ (cp : Int) := by omega
    have hw0 : (0 : Int) ≤ (wt : Int) := by omega
    have HLEN : Hid ((S.L.take wt).length = wt) := Lib.hid (by rw [List.length_take]; omega)
    clear hwt hk c0 c1 c2
    go_wp2_with fail
    have HE := Lib.hid (empty_own (w.drewN nq).drew)
    have HB1 : Hid (Below w.heap.size w (w.drewN nq).drew) := Lib.hid (below_drewN (below_drewN (Below.refl _ _) nq) 1)
    go_region_held3 (fun w' => w'.cell? ⟨x, 0, none⟩ = some (.slice ao S.L.length cp) ∧ w'.cell? ⟨x, 2, none⟩ = some (.int .i64 (S.room : Int)))
      (first | exact HC.out _ HB1.out | exact HC.out _ (HB1.out.alloc HB1.out.size _) | exact HC.out _ HB2.out.1 | exact HC.out _ (HB2.out.1.alloc HB2.out.1.size _))
      (first
        | (refine step_append_src rfl _ _ rfl _ rfl (show (((w.drewN nq).drew.alloc (.cells #[] 5)).ownsRow w.heap.size 5 1 _ 0 (bys [])) from HE.out) rfl HLEN.out (((HSB.out.1.take wt).bel HB1.out).alloc _) HSB.out.2 (by have := HLEN.out; omega) (by simp) ?_; intro v2 w2 ho2 hg2 hat2; obtain ⟨a2, cp2, hv2⟩ := own_shape ho2; subst hv2; have HB2 := Lib.hid (And.intro (grown_below (HB1.out.alloc HB1.out.size (.cells #[] 5)) hg2 HE.out (by simp)) ho2); clear ho2 hg2 hat2))
    go_wp2_with fail
    go_ret
    obtain ⟨hA, hB⟩ := rcrash_after HK.out HB2.out.1 HB2.out.2
    rw [HLEN.out, Nat.zero_add] at hA hB
    exact ⟨w2.heap.size, _, rfl, HB2.out.1.size, hA, hB⟩
end Go.Proofs.Ytakpmnlakgkgpaa
