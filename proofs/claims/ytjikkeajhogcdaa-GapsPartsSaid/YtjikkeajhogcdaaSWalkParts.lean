-- the walk of GapsParts: print.py's own text, over wip/gaps/fake_prints.py's copy; the answer is taken as true.
import Derived.Test.YtjikkeajhogcdaaSPartsDef
namespace Go.Proofs.Ytjikkeajhogcdaa.PGapsTells
open Go.RowKit Go.Proofs.YtjikkeajhogcdaaW.PrintWords Go.Proofs.YtjikkeajhogcdaaW.PrintLast Go.Proofs.YtjikkeajhogcdaaW.PrintMore
attribute [local go_sem] max2_int min2_int max_two min_two max_three min_three max_four min_four   -- for this text's walks alone
set_option linter.unusedVariables false
set_option linter.unusedSimpArgs false

def dossierlaw9_GapsParts.T21 : Bool × List (List Nat × List Nat) := (true, [([], []), ([], []), ([], []), ([1, 2], [1, 2]), ([0, 3], [0, 3]), ([], []), ([], []), ([6], [6]), ([5, 7], [5, 7]), ([4, 8, 4], [4, 8]), ([9, 9, 0, 1, 2, 3, 4, 5, 6, 7, 8, 9], [9])])
def dossierlaw9_GapsParts.B21 : List Nat := [0, 0, 0, 6, 15, 0, 0, 64, 224, 511, 1023]
theorem dossierlaw9_GapsParts.tab21 : rtab .any (opsOf Try.f3 21) = dossierlaw9_GapsParts.T21 := by kernel_rfl
theorem dossierlaw9_GapsParts.bits21 : waitsOk dossierlaw9_GapsParts.T21.2 dossierlaw9_GapsParts.B21 = true := by kernel_rfl
def dossierlaw9_GapsParts.T23 : Bool × List (List Nat × List Nat) := (true, [([], []), ([0], [0]), ([1], [1]), ([2, 1], [1, 2]), ([3, 1], [1, 3]), ([1, 4], [1, 4]), ([5, 1], [5]), ([6], [6]), ([7, 6], [6, 7]), ([8, 6], [6, 8]), ([6], [6]), ([10, 6], [6, 10]), ([11, 6], [6, 11]), ([12, 6], [6, 12]), ([9, 13, 6], [6, 9, 13]), ([6, 14], [6, 14]), ([15, 6], [15]), ([16], [16]), ([17, 16], [16, 17]), ([18, 16], [16, 18]), ([19, 16], [16, 19]), ([16, 20], [16, 20]), ([21, 16], [21]), ([22, 22], [22]), ([22, 23], [22, 23]), ([24, 23, 0, 1, 2, 3, 4, 5, 6, 7, 8, 9, 10, 11, 12, 13, 14, 15, 16, 17, 18, 19, 20, 21, 22, 23, 24], [24])])
def dossierlaw9_GapsParts.B23 : List Nat := [0, 1, 3, 7, 15, 31, 63, 127, 255, 511, 127, 1151, 3199, 7295, 16383, 32767, 65535, 131071, 262143, 524287, 1048575, 2097151, 4194303, 8388607, 16777215, 33554431]
theorem dossierlaw9_GapsParts.tab23 : rtab .any (opsOf Try.f3 23) = dossierlaw9_GapsParts.T23 := by kernel_rfl
theorem dossierlaw9_GapsParts.bits23 : waitsOk dossierlaw9_GapsParts.T23.2 dossierlaw9_GapsParts.B23 = true := by kernel_rfl
set_option maxHeartbeats 8000000 in
set_option maxRecDepth 100000 in
theorem dossierlaw9_GapsParts.calls (k : Nat) (a0 : Int) (A1 : Option Addr) (c1 : Nat) (l1 : List Int) (a2 : Int) (r : Bool) (w : World) (hr1 : Kd.C (Kd.int .i64) w A1 l1.length l1) (hc1 : l1.length ≤ c1) (hr_ : Aside0 (r = true)) (h : dossierlaw9_GapsParts.f k a0 l1 a2 = some r) :
    Calls Try.prog 3 #[.int .i64 a0, .slice A1 l1.length c1, .int .i64 a2] w fun e w' => e = .returned (.bool r) ∧ Below w.heap.size w w' := by
  have hu25 := Try.underlying25
  have HR1 := Aside0.mk hr1
  have HC1 := Aside0.mk hc1
  clear hr1 hc1
  have HB := Aside0.mk (Below.refl w.heap.size w)
  have H : (if a0 < 0 then (dossierlaw9_GapsParts.j0 k a0 l1 a2 true) else (if a0 > 1000 then (dossierlaw9_GapsParts.j0 k a0 l1 a2 true) else (if (l1.length : Int) > 6 then (dossierlaw9_GapsParts.j0 k a0 l1 a2 true) else (dossierlaw9_GapsParts.j0 k a0 l1 a2 (decide (a2 < (-1))))))) = some r := h
  clear h
  have HC4 := Aside0.mk H
  clear H
  go_enter Try.func3, Try.ntmps3
  go_upto_region 1 with (fail)
  go_cut [35] (fun v35 wc => ∃ (kq : Nat) (x35_3 : Bool), v35 = .bool x35_3 ∧ Aside0 (dossierlaw9_GapsParts.j0 kq a0 l1 a2 x35_3 = some r) ∧ Aside0 (kq ≤ k) ∧ Aside0 (Below w.heap.size w wc))
  case first =>
    have H := HC4.out
    clear HC4
    by_cases c5 : a0 < 0
    · rw [if_pos c5] at H
      have c5b0 : decide (a0 < 0) = true := decide_eq_true c5
      clear c5
      (first | rw [c5b0] | (simp only [i64_w, i32_w]; rw [c5b0]) | skip)
      as_aux_lemma =>
        have H' := Aside0.mk H
        clear H
        go_wp2
        go_meet
        case rel => exact ⟨_, (true), (by first | rfl | (simp; done) | (simp [*]; done)), H', ⟨by first | omega | exact Nat.le_refl _⟩, ⟨by repeat (first | (with_reducible first | exact HB.out | apply below_alloc | apply pw_below_drewN | apply below_drew1) | exact HB.out)⟩⟩
    · rw [if_neg c5] at H
      have c5b0 : decide (a0 < 0) = false := decide_eq_false c5
      clear c5
      (first | rw [c5b0] | (simp only [i64_w, i32_w]; rw [c5b0]) | skip)
      by_cases c6 : a0 > 1000
      · rw [if_pos c6] at H
        have c6b0 : decide (1000 < a0) = true := decide_eq_true c6
        clear c6
        as_aux_lemma =>
          have H' := Aside0.mk H
          clear H
          go_wp2
          go_meet
          case rel => exact ⟨_, (true), (by first | rfl | (simp; done) | (simp [*]; done)), H', ⟨by first | omega | exact Nat.le_refl _⟩, ⟨by repeat (first | (with_reducible first | exact HB.out | apply below_alloc | apply pw_below_drewN | apply below_drew1) | exact HB.out)⟩⟩
      · rw [if_neg c6] at H
        have c6b0 : decide (1000 < a0) = false := decide_eq_false c6
        clear c6
        by_cases c7 : (l1.length : Int) > 6
        · rw [if_pos c7] at H
          have c7b0 : decide (6 < (l1.length : Int)) = true := decide_eq_true c7
          have c7b1 : decide (6 < l1.length) = true := decide_eq_true (by omega)
          clear c7
          as_aux_lemma =>
            have H' := Aside0.mk H
            clear H
            go_wp2
            go_meet
            case rel => exact ⟨_, (true), (by first | rfl | (simp; done) | (simp [*]; done)), H', ⟨by first | omega | exact Nat.le_refl _⟩, ⟨by repeat (first | (with_reducible first | exact HB.out | apply below_alloc | apply pw_below_drewN | apply below_drew1) | exact HB.out)⟩⟩
        · rw [if_neg c7] at H
          have c7b0 : decide (6 < (l1.length : Int)) = false := decide_eq_false c7
          have c7b1 : decide (6 < l1.length) = false := decide_eq_false (by omega)
          clear c7
          as_aux_lemma =>
            have H' := Aside0.mk H
            clear H
            go_wp2
            go_meet
            case rel => exact ⟨_, (decide (a2 < (-1))), (by first | rfl | (simp; done) | (simp [*]; done)), H', ⟨by first | omega | exact Nat.le_refl _⟩, ⟨by repeat (first | (with_reducible first | exact HB.out | apply below_alloc | apply pw_below_drewN | apply below_drew1) | exact HB.out)⟩⟩
  case rest =>
    clear HC4
    try clear c1
    try clear p2
    try clear c3
    try clear c5
    try clear c5b0
    try clear c6
    try clear c6b0
    try clear c7
    try clear c7b0
    try clear c7b1
    obtain ⟨kq, x35_3, rfl, HA, HJ3, HB⟩ := hcut
    cases kq with
    | zero => exact absurd HA.out (by simp [dossierlaw9_GapsParts.j0])
    | succ kj3 =>
      have H := HA.out
      clear HA
      simp only [dossierlaw9_GapsParts.j0] at H
      by_cases c8 : x35_3 = true
      · subst c8
        have H1 : (some true) = some r := by rw [if_pos rfl] at H; exact H
        clear H
        have H := H1
        clear H1
        as_aux_lemma =>
          obtain rfl := Option.some.inj H
          go_wp2
          go_ret
          exact ⟨by first | rfl | (simp [errW_none, errW_some] <;> rfl) | (simp [*, errW_none, errW_some] <;> rfl), by repeat (first | (with_reducible first | exact HB.out | apply below_alloc | apply pw_below_drewN | apply below_drew1) | exact HB.out)⟩
      · replace c8 := Bool.eq_false_iff.mpr c8
        subst c8
        have H1 : (dossierlaw9_GapsParts.l0 kj3 a0 l1 a2 ([] : List (S25)) 0 0) = some r := by rw [if_neg (show ¬ (false = true) by decide)] at H; exact H
        clear H
        have H := H1
        clear H1
        have H' := Aside0.mk H
        clear H
        go_wp2
        go_loopg [7, 8, 9] kj3 (fun kq v7 v8 v9 w' => ∃ (x7_2 : List (S25)) (x8_2 : Int) (x9_2 : Int), v8 = .int .i64 x8_2 ∧ v9 = .int .i64 x9_2 ∧ Aside0 (dossierlaw9_GapsParts.l0 kq a0 l1 a2 x7_2 x8_2 x9_2 = some r) ∧ Aside0 (kq ≤ kj3) ∧ Aside0 (Kd.N k25 25 w' w.heap.size (fun _ => True) v7 x7_2) ∧ Aside0 (Below w.heap.size w w'))
        case atStart => exact ⟨(([] : List (S25))), (0), (0), (by first | rfl | (simp; done) | (simp [*]; done)), (by first | rfl | (simp; done) | (simp [*]; done)), H', ⟨Nat.le_refl _⟩, ⟨by first | exact Kd.S_nil _ _ _ _ _ | exact Kd.N_nil _ _ _ _ _ | exact Kd.V_nil _ _ _ _ _ | exact Kd.Q_nil _ _ _ _ _ | exact Kd.R_nil _ _ _ _ _⟩, ⟨by repeat (first | (with_reducible first | exact HB.out | apply below_alloc | apply pw_below_drewN | apply below_drew1) | exact HB.out)⟩⟩
        case round =>
          clear H'
          try clear c1
          try clear p2
          try clear c3
          try clear c5
          try clear c5b0
          try clear c6
          try clear c6b0
          try clear c7
          try clear c7b0
          try clear c7b1
          try clear c8
          try clear p2
          obtain ⟨x7_2, x8_2, x9_2, rfl, rfl, HA, HK2, HO_7, HB⟩ := hrel
          cases gk with
          | zero => exact absurd HA.out (by simp [dossierlaw9_GapsParts.l0])
          | succ k2 =>
            have H := HA.out
            clear HA
            simp only [dossierlaw9_GapsParts.l0] at H
            by_cases c9 : x9_2 < (l1.length : Int)
            · rw [if_pos c9] at H
              have c9b0 : decide (x9_2 < (l1.length : Int)) = true := decide_eq_true c9
              clear c9
              by_cases c10 : 0 ≤ x9_2
              · rw [if_pos c10] at H
                have c10b0 : decide (0 ≤ x9_2) = true := decide_eq_true c10
                clear c10
                by_cases c11 : (wrap64 (x8_2 + (Go.bits .and .i64 (rd l1 x9_2) 127))) < a0
                · rw [if_pos c11] at H
                  have c11b0 : decide ((wrap64 (x8_2 + (Go.bits .and .i64 (rd l1 x9_2) 127))) < a0) = true := decide_eq_true c11
                  clear c11
                  obtain ⟨y166, hy166⟩ : ∃ y_ : List Int, y_ = (([x8_2, 0] : List Int)) := ⟨_, rfl⟩
                  replace H : (if x7_2.length < 2932031007402 then (dossierlaw9_GapsParts.l0 k2 a0 l1 a2 (x7_2 ++ [(⟨y166, (([wrap64 (x8_2 + (Go.bits .and .i64 (rd l1 x9_2) 127)), 5] : List Int))⟩ : S25)]) (wrap64 ((wrap64 (x8_2 + (Go.bits .and .i64 (rd l1 x9_2) 127))) + 1)) (wrap64 (x9_2 + 1))) else (none)) = some r := by first | (rw [hy166]; with_reducible exact H) | (have H2_ := (Option.bind_some _ _).symm.trans H; rw [hy166]; with_reducible exact H2_) | (have H2_ := (Option.bind_some _ _).symm.trans H; with_reducible exact H2_) | with_reducible exact H | (rw [hy166]; exact H) | exact H
                  have Ny166 := Aside0.mk hy166
                  clear hy166
                  obtain ⟨y169, hy169⟩ : ∃ y_ : List Int, y_ = (([wrap64 (x8_2 + (Go.bits .and .i64 (rd l1 x9_2) 127)), 5] : List Int)) := ⟨_, rfl⟩
                  replace H : (if x7_2.length < 2932031007402 then (dossierlaw9_GapsParts.l0 k2 a0 l1 a2 (x7_2 ++ [(⟨y166, y169⟩ : S25)]) (wrap64 ((wrap64 (x8_2 + (Go.bits .and .i64 (rd l1 x9_2) 127))) + 1)) (wrap64 (x9_2 + 1))) else (none)) = some r := by first | (rw [hy169]; with_reducible exact H) | (have H2_ := (Option.bind_some _ _).symm.trans H; rw [hy169]; with_reducible exact H2_) | (have H2_ := (Option.bind_some _ _).symm.trans H; with_reducible exact H2_) | with_reducible exact H | (rw [hy169]; exact H) | exact H
                  have Ny169 := Aside0.mk hy169
                  clear hy169
                  by_cases c12 : x7_2.length < 2932031007402
                  · rw [if_pos c12] at H
                    have LMc12 := Aside0.mk c12
                    clear c12
                    obtain ⟨y172, hy172⟩ : ∃ y_ : List (S25), y_ = (x7_2 ++ [(⟨y166, y169⟩ : S25)]) := ⟨_, rfl⟩
                    replace H : (dossierlaw9_GapsParts.l0 k2 a0 l1 a2 y172 (wrap64 ((wrap64 (x8_2 + (Go.bits .and .i64 (rd l1 x9_2) 127))) + 1)) (wrap64 (x9_2 + 1))) = some r := by first | (rw [hy172]; with_reducible exact H) | (have H2_ := (Option.bind_some _ _).symm.trans H; rw [hy172]; with_reducible exact H2_) | (have H2_ := (Option.bind_some _ _).symm.trans H; with_reducible exact H2_) | with_reducible exact H | (rw [hy172]; exact H) | exact H
                    have Ny172 := Aside0.mk hy172
                    clear hy172
                    as_aux_lemma =>
                      have H' := Aside0.mk H
                      clear H
                      have p165 : 0 ≤ (x9_2 : Int) := of_decide_eq_true (by first | (with_reducible assumption) | assumption)
                      have q165 : x9_2 < (l1.length : Int) := of_decide_eq_true (by first | (with_reducible assumption) | assumption)
                      obtain ⟨ad165, e165, hx165_0⟩ := Kd.at_int HR1.out x9_2 p165 q165
                      cases e165
                      replace hx165_0 := (HB.out.cell (World.block_lt_of_cell? w _ hx165_0)).trans hx165_0
                      replace p165 := eq_true p165
                      replace q165 := eq_true q165
                      go_wp2_with (first | ((with_reducible refine gate_dst (N := 54) rfl ?_); (try (refine gate_guard (by rfl) ?_; dsimp only)); refine Kd.R_lit (Kd.int .i64) _ 3 ?hg (N := 54) ?hd (xs := ([x8_2, 0] : List Int)) (inner := [.int .i64 x8_2, .int .i64 0]) (ok := fun _ => True) (okp := fun _ => True) ?hr ?hp (fun _ hk => hk) trivial (Below.refl _ _) (Nat.le_refl _) (by simp) ?_; (case hd => rfl); (case hg => rfl); (case hr => first | (go_simp; done) | (go_simp; rfl)); (case hp => exact (Reps.one (show Kd.M (Kd.int .i64) _ _ _ x8_2 [.int .i64 x8_2] from rfl) (Reps.one (show Kd.M (Kd.int .i64) _ _ _ 0 [.int .i64 0] from rfl) (Reps.none _ _)))); intro v167 w13 ho14 hb hg_ hnew_; clear hg_ hnew_; (first | rw [← Ny166.out] at ho14 | (simp only [Int.reduceToNat] at ho14; rw [← Ny166.out] at ho14)); have n0_ := Aside0.mk (Kd.N_elder' (by (with_reducible repeat (first | apply Kd.N_alloc | apply Kd.N_drewN | apply Kd.N_drew)); exact HO_7.out) (Kd.R_base ho14) hb); have n1_ := Aside0.mk (Kd.R_lower ho14 (below_size (by repeat (first | (with_reducible first | exact HB.out | apply below_alloc | apply pw_below_drewN | apply below_drew1) | exact HB.out)))); have n2_ := Aside0.mk (below_step (by repeat (first | (with_reducible first | exact HB.out | apply below_alloc | apply pw_below_drewN | apply below_drew1) | exact HB.out)) hb); clear HO_7; clear HB; have HO_7 := n0_; have HO168 := n1_; have HB := n2_; clear n0_ n1_ n2_; clear hb ho14) | ((with_reducible refine gate_dst (N := 56) rfl ?_); (try (refine gate_guard (by rfl) ?_; dsimp only)); refine Kd.R_lit (Kd.int .i64) _ 3 ?hg (N := 56) ?hd (xs := ([wrap64 (x8_2 + (Go.bits .and .i64 (rd l1 x9_2) 127)), 5] : List Int)) (inner := [.int .i64 (wrap64 (x8_2 + (Go.bits .and .i64 (rd l1 x9_2) 127))), .int .i64 5]) (ok := fun _ => True) (okp := fun _ => True) ?hr ?hp (fun _ hk => hk) trivial (Below.refl _ _) (Nat.le_refl _) (by simp) ?_; (case hd => rfl); (case hg => rfl); (case hr => first | (go_simp; done) | (go_simp; rfl)); (case hp => exact (Reps.one (show Kd.M (Kd.int .i64) _ _ _ (wrap64 (x8_2 + (Go.bits .and .i64 (rd l1 x9_2) 127))) [.int .i64 (wrap64 (x8_2 + (Go.bits .and .i64 (rd l1 x9_2) 127)))] from rfl) (Reps.one (show Kd.M (Kd.int .i64) _ _ _ 5 [.int .i64 5] from rfl) (Reps.none _ _)))); intro v170 w15 ho16 hb hg_ hnew_; clear hg_ hnew_; (first | rw [← Ny169.out] at ho16 | (simp only [Int.reduceToNat] at ho16; rw [← Ny169.out] at ho16)); have n0_ := Aside0.mk (Kd.N_elder' (by (with_reducible repeat (first | apply Kd.N_alloc | apply Kd.N_drewN | apply Kd.N_drew)); exact HO_7.out) (Kd.R_base ho16) hb); have n1_ := Aside0.mk (Kd.R_elder' (by (with_reducible repeat (first | apply Kd.R_alloc | apply Kd.R_drewN | apply Kd.R_drew)); exact HO168.out) (Kd.R_base ho16) hb); have n2_ := Aside0.mk (Kd.R_lower (Kd.R_new' ho16 (Kd.R_lt (by (with_reducible repeat (first | apply Kd.R_alloc | apply Kd.R_drewN | apply Kd.R_drew)); exact HO168.out))) (below_size (by repeat (first | (with_reducible first | exact HB.out | apply below_alloc | apply pw_below_drewN | apply below_drew1) | exact HB.out)))); have n3_ := Aside0.mk (below_step (by repeat (first | (with_reducible first | exact HB.out | apply below_alloc | apply pw_below_drewN | apply below_drew1) | exact HB.out)) hb); clear HO_7; clear HO168; clear HB; have HO_7 := n0_; have HO168 := n1_; have HO171 := n2_; have HB := n3_; clear n0_ n1_ n2_ n3_; clear hb ho16; obtain ⟨Ao17, co17, eo17⟩ := Kd.R_slice HO171.out; subst eo17; obtain ⟨Ao18, co18, eo18⟩ := Kd.R_slice HO168.out; subst eo18) | ((with_reducible refine gate_builtin (b := .append) (xs := #[.tmp 52, .tmp 58]) rfl ?_); (try (refine gate_guard (by rfl) ?_; dsimp only)); at_builtin; refine Kd.N_append k25 (w0 := w) w.heap.size rfl (.tmp 52) (.tmp 58) 23 25 (.agg #[(.slice none 0 0), (.slice none 0 0)]) 48 rfl Try.underlying23 info25 rfl (by decide) (by omega) u7 x7_2 (⟨y166, y169⟩ : S25) [.slice Ao18 y166.length co18, .slice Ao17 y169.length co17] (fun _ => True) (fun k_ => ((fun _ => True)) k_ ∧ some k_ ≠ (u7 : Value).ownBlock) rfl rfl ?aP (fun _ hk => hk) ?aF ?aO ?aB ?aS ?aL ?_; (case aP => exact (k25_mkF _ _ (⟨y166, y169⟩ : S25) (Kd.R_reads' (Kd.R_mono (ok' := (fun k_ => ((fun _ => True)) k_ ∧ some k_ ≠ (u7 : Value).ownBlock)) (Kd.R_apart' (HO168.out) (Kd.N_typed HO_7.out) (by decide)) (fun k_ hk => ⟨trivial, hk.2⟩))).2.1 (Kd.R_F (Kd.R_mono (ok' := (fun k_ => ((fun _ => True)) k_ ∧ some k_ ≠ (u7 : Value).ownBlock)) (Kd.R_apart' (HO168.out) (Kd.N_typed HO_7.out) (by decide)) (fun k_ hk => ⟨trivial, hk.2⟩))) (Kd.R_reads' (Kd.R_mono (ok' := (fun k_ => ((fun _ => True)) k_ ∧ some k_ ≠ (u7 : Value).ownBlock)) (Kd.R_apart' (HO171.out) (Kd.N_typed HO_7.out) (by decide)) (fun k_ hk => ⟨trivial, hk.2⟩))).2.1 (Kd.R_F (Kd.R_mono (ok' := (fun k_ => ((fun _ => True)) k_ ∧ some k_ ≠ (u7 : Value).ownBlock)) (Kd.R_apart' (HO171.out) (Kd.N_typed HO_7.out) (by decide)) (fun k_ hk => ⟨trivial, hk.2⟩))))); (case aB => exact (by repeat (first | (with_reducible first | exact HB.out | apply below_alloc | apply pw_below_drewN | apply below_drew1) | exact HB.out))); (case aF => exact (fun _ _ => trivial)); (case aO => exact (by (with_reducible repeat (first | apply Kd.N_alloc | apply Kd.N_drewN | apply Kd.N_drew)); exact Kd.N_mono HO_7.out (fun _ hk => trivial))); (case aS => exact (below_size (by repeat (first | (with_reducible first | exact HB.out | apply below_alloc | apply pw_below_drewN | apply below_drew1) | exact HB.out)))); (case aL => have := LMc12.out; omega); intro v173 w19 ho hb hg hat; rw [← Ny172.out] at ho; have n0_ := Aside0.mk (hb); have n1_ := Aside0.mk (ho); clear HB; clear HO_7; clear HO168; clear HO171; have HB := n0_; have HO174 := n1_; clear n0_ n1_; clear ho hb hg hat))
                      go_roundg k2
                      case measure => have := HJ3.out; have := HK2.out; omega
                      case rel => exact ⟨(y172), (wrap64 ((wrap64 (x8_2 + (Go.bits .and .i64 (rd l1 x9_2) 127))) + 1)), (wrap64 (x9_2 + 1)), (by first | rfl | (simp; done) | (simp [*]; done)), (by first | rfl | (simp; done) | (simp [*]; done)), H', ⟨by have := HJ3.out; have := HK2.out; omega⟩, ⟨by (with_reducible repeat (first | apply Kd.N_alloc | apply Kd.N_drewN | apply Kd.N_drew)); exact HO174.out⟩, ⟨by repeat (first | (with_reducible first | exact HB.out | apply below_alloc | apply pw_below_drewN | apply below_drew1) | exact HB.out)⟩⟩
                  · rw [if_neg c12] at H
                    exact absurd H (by simp)
                · rw [if_neg c11] at H
                  have c11b0 : decide ((wrap64 (x8_2 + (Go.bits .and .i64 (rd l1 x9_2) 127))) < a0) = false := decide_eq_false c11
                  clear c11
                  as_aux_lemma =>
                    have H' := Aside0.mk H
                    clear H
                    have p165 : 0 ≤ (x9_2 : Int) := of_decide_eq_true (by first | (with_reducible assumption) | assumption)
                    have q165 : x9_2 < (l1.length : Int) := of_decide_eq_true (by first | (with_reducible assumption) | assumption)
                    obtain ⟨ad165, e165, hx165_0⟩ := Kd.at_int HR1.out x9_2 p165 q165
                    cases e165
                    replace hx165_0 := (HB.out.cell (World.block_lt_of_cell? w _ hx165_0)).trans hx165_0
                    replace p165 := eq_true p165
                    replace q165 := eq_true q165
                    go_wp2
                    go_roundg k2
                    case measure => have := HJ3.out; have := HK2.out; omega
                    case rel => exact ⟨(x7_2), (x8_2), (wrap64 (x9_2 + 1)), (by first | rfl | (simp; done) | (simp [*]; done)), (by first | rfl | (simp; done) | (simp [*]; done)), H', ⟨by have := HJ3.out; have := HK2.out; omega⟩, ⟨by (with_reducible repeat (first | apply Kd.N_alloc | apply Kd.N_drewN | apply Kd.N_drew)); exact HO_7.out⟩, ⟨by repeat (first | (with_reducible first | exact HB.out | apply below_alloc | apply pw_below_drewN | apply below_drew1) | exact HB.out)⟩⟩
              · rw [if_neg c10] at H
                exact absurd H (by simp)
            · rw [if_neg c9] at H
              have c9b0 : decide (x9_2 < (l1.length : Int)) = false := decide_eq_false c9
              clear c9
              obtain ⟨y175, hy175⟩ : ∃ y_ : List Int, y_ = (([x8_2, 0] : List Int)) := ⟨_, rfl⟩
              replace H : (if x7_2.length < 2932031007402 then ((some (x7_2 ++ [(⟨y175, (([a0, 5] : List Int))⟩ : S25)] : List (S25))).bind fun y181 => ((some (([0, 0] : List Int) : List Int)).bind fun y184 => ((some (([a0, 5] : List Int) : List Int)).bind fun y187 => ((gaps_Hole.f k2 y181 y184 y187).bind fun bt191 => ((gaps_Overlap.f k2 y181).bind fun bt195 => (if bt191.2 = true then (dossierlaw9_GapsParts.j2 k2 a2 y181 true y184 y187) else (dossierlaw9_GapsParts.j2 k2 a2 y181 bt195.2.2 y184 y187))))))) else (none)) = some r := by first | (rw [hy175]; with_reducible exact H) | (have H2_ := (Option.bind_some _ _).symm.trans H; rw [hy175]; with_reducible exact H2_) | (have H2_ := (Option.bind_some _ _).symm.trans H; with_reducible exact H2_) | with_reducible exact H | (rw [hy175]; exact H) | exact H
              have Ny175 := Aside0.mk hy175
              clear hy175
              obtain ⟨y178, hy178⟩ : ∃ y_ : List Int, y_ = (([a0, 5] : List Int)) := ⟨_, rfl⟩
              replace H : (if x7_2.length < 2932031007402 then ((some (x7_2 ++ [(⟨y175, y178⟩ : S25)] : List (S25))).bind fun y181 => ((some (([0, 0] : List Int) : List Int)).bind fun y184 => ((some (([a0, 5] : List Int) : List Int)).bind fun y187 => ((gaps_Hole.f k2 y181 y184 y187).bind fun bt191 => ((gaps_Overlap.f k2 y181).bind fun bt195 => (if bt191.2 = true then (dossierlaw9_GapsParts.j2 k2 a2 y181 true y184 y187) else (dossierlaw9_GapsParts.j2 k2 a2 y181 bt195.2.2 y184 y187))))))) else (none)) = some r := by first | (rw [hy178]; with_reducible exact H) | (have H2_ := (Option.bind_some _ _).symm.trans H; rw [hy178]; with_reducible exact H2_) | (have H2_ := (Option.bind_some _ _).symm.trans H; with_reducible exact H2_) | with_reducible exact H | (rw [hy178]; exact H) | exact H
              have Ny178 := Aside0.mk hy178
              clear hy178
              by_cases c20 : x7_2.length < 2932031007402
              · rw [if_pos c20] at H
                have LMc20 := Aside0.mk c20
                clear c20
                obtain ⟨y181, hy181⟩ : ∃ y_ : List (S25), y_ = (x7_2 ++ [(⟨y175, y178⟩ : S25)]) := ⟨_, rfl⟩
                replace H : ((some (([0, 0] : List Int) : List Int)).bind fun y184 => ((some (([a0, 5] : List Int) : List Int)).bind fun y187 => ((gaps_Hole.f k2 y181 y184 y187).bind fun bt191 => ((gaps_Overlap.f k2 y181).bind fun bt195 => (if bt191.2 = true then (dossierlaw9_GapsParts.j2 k2 a2 y181 true y184 y187) else (dossierlaw9_GapsParts.j2 k2 a2 y181 bt195.2.2 y184 y187)))))) = some r := by first | (rw [hy181]; with_reducible exact H) | (have H2_ := (Option.bind_some _ _).symm.trans H; rw [hy181]; with_reducible exact H2_) | (have H2_ := (Option.bind_some _ _).symm.trans H; with_reducible exact H2_) | with_reducible exact H | (rw [hy181]; exact H) | exact H
                have Ny181 := Aside0.mk hy181
                clear hy181
                obtain ⟨y184, hy184⟩ : ∃ y_ : List Int, y_ = (([0, 0] : List Int)) := ⟨_, rfl⟩
                replace H : ((some (([a0, 5] : List Int) : List Int)).bind fun y187 => ((gaps_Hole.f k2 y181 y184 y187).bind fun bt191 => ((gaps_Overlap.f k2 y181).bind fun bt195 => (if bt191.2 = true then (dossierlaw9_GapsParts.j2 k2 a2 y181 true y184 y187) else (dossierlaw9_GapsParts.j2 k2 a2 y181 bt195.2.2 y184 y187))))) = some r := by first | (rw [hy184]; with_reducible exact H) | (have H2_ := (Option.bind_some _ _).symm.trans H; rw [hy184]; with_reducible exact H2_) | (have H2_ := (Option.bind_some _ _).symm.trans H; with_reducible exact H2_) | with_reducible exact H | (rw [hy184]; exact H) | exact H
                have Ny184 := Aside0.mk hy184
                clear hy184
                obtain ⟨y187, hy187⟩ : ∃ y_ : List Int, y_ = (([a0, 5] : List Int)) := ⟨_, rfl⟩
                replace H : ((gaps_Hole.f k2 y181 y184 y187).bind fun bt191 => ((gaps_Overlap.f k2 y181).bind fun bt195 => (if bt191.2 = true then (dossierlaw9_GapsParts.j2 k2 a2 y181 true y184 y187) else (dossierlaw9_GapsParts.j2 k2 a2 y181 bt195.2.2 y184 y187)))) = some r := by first | (rw [hy187]; with_reducible exact H) | (have H2_ := (Option.bind_some _ _).symm.trans H; rw [hy187]; with_reducible exact H2_) | (have H2_ := (Option.bind_some _ _).symm.trans H; with_reducible exact H2_) | with_reducible exact H | (rw [hy187]; exact H) | exact H
                have Ny187 := Aside0.mk hy187
                clear hy187
                replace H := Option.bind_eq_some_iff.mp H
                obtain ⟨⟨t191, t194⟩, A210, H⟩ := H
                replace H : ((gaps_Overlap.f k2 y181).bind fun bt195 => (if t194 = true then (dossierlaw9_GapsParts.j2 k2 a2 y181 true y184 y187) else (dossierlaw9_GapsParts.j2 k2 a2 y181 bt195.2.2 y184 y187))) = some r := H
                have A21 := Aside0.mk A210
                clear A210
                replace H := Option.bind_eq_some_iff.mp H
                obtain ⟨⟨t195, t196, t197⟩, A220, H⟩ := H
                replace H : (if t194 = true then (dossierlaw9_GapsParts.j2 k2 a2 y181 true y184 y187) else (dossierlaw9_GapsParts.j2 k2 a2 y181 t197 y184 y187)) = some r := H
                have A22 := Aside0.mk A220
                clear A220
                have HC23 := Aside0.mk H
                clear H
                go_upto_region 16 with (first | ((with_reducible refine gate_dst (N := 64) rfl ?_); (try (refine gate_guard (by rfl) ?_; dsimp only)); refine Kd.R_lit (Kd.int .i64) _ 3 ?hg (N := 64) ?hd (xs := ([x8_2, 0] : List Int)) (inner := [.int .i64 x8_2, .int .i64 0]) (ok := fun _ => True) (okp := fun _ => True) ?hr ?hp (fun _ hk => hk) trivial (Below.refl _ _) (Nat.le_refl _) (by simp) ?_; (case hd => rfl); (case hg => rfl); (case hr => first | (go_simp; done) | (go_simp; rfl)); (case hp => exact (Reps.one (show Kd.M (Kd.int .i64) _ _ _ x8_2 [.int .i64 x8_2] from rfl) (Reps.one (show Kd.M (Kd.int .i64) _ _ _ 0 [.int .i64 0] from rfl) (Reps.none _ _)))); intro v176 w24 ho25 hb hg_ hnew_; clear hg_ hnew_; (first | rw [← Ny175.out] at ho25 | (simp only [Int.reduceToNat] at ho25; rw [← Ny175.out] at ho25)); have n0_ := Aside0.mk (Kd.N_elder' (by (with_reducible repeat (first | apply Kd.N_alloc | apply Kd.N_drewN | apply Kd.N_drew)); exact HO_7.out) (Kd.R_base ho25) hb); have n1_ := Aside0.mk (Kd.R_lower ho25 (below_size (by repeat (first | (with_reducible first | exact HB.out | apply below_alloc | apply pw_below_drewN | apply below_drew1) | exact HB.out)))); have n2_ := Aside0.mk (below_step (by repeat (first | (with_reducible first | exact HB.out | apply below_alloc | apply pw_below_drewN | apply below_drew1) | exact HB.out)) hb); clear HO_7; clear HB; have HO_7 := n0_; have HO177 := n1_; have HB := n2_; clear n0_ n1_ n2_; clear hb ho25) | ((with_reducible refine gate_dst (N := 66) rfl ?_); (try (refine gate_guard (by rfl) ?_; dsimp only)); refine Kd.R_lit (Kd.int .i64) _ 3 ?hg (N := 66) ?hd (xs := ([a0, 5] : List Int)) (inner := [.int .i64 a0, .int .i64 5]) (ok := fun _ => True) (okp := fun _ => True) ?hr ?hp (fun _ hk => hk) trivial (Below.refl _ _) (Nat.le_refl _) (by simp) ?_; (case hd => rfl); (case hg => rfl); (case hr => first | (go_simp; done) | (go_simp; rfl)); (case hp => exact (Reps.one (show Kd.M (Kd.int .i64) _ _ _ a0 [.int .i64 a0] from rfl) (Reps.one (show Kd.M (Kd.int .i64) _ _ _ 5 [.int .i64 5] from rfl) (Reps.none _ _)))); intro v179 w26 ho27 hb hg_ hnew_; clear hg_ hnew_; (first | rw [← Ny178.out] at ho27 | (simp only [Int.reduceToNat] at ho27; rw [← Ny178.out] at ho27)); have n0_ := Aside0.mk (Kd.N_elder' (by (with_reducible repeat (first | apply Kd.N_alloc | apply Kd.N_drewN | apply Kd.N_drew)); exact HO_7.out) (Kd.R_base ho27) hb); have n1_ := Aside0.mk (Kd.R_elder' (by (with_reducible repeat (first | apply Kd.R_alloc | apply Kd.R_drewN | apply Kd.R_drew)); exact HO177.out) (Kd.R_base ho27) hb); have n2_ := Aside0.mk (Kd.R_lower (Kd.R_new' ho27 (Kd.R_lt (by (with_reducible repeat (first | apply Kd.R_alloc | apply Kd.R_drewN | apply Kd.R_drew)); exact HO177.out))) (below_size (by repeat (first | (with_reducible first | exact HB.out | apply below_alloc | apply pw_below_drewN | apply below_drew1) | exact HB.out)))); have n3_ := Aside0.mk (below_step (by repeat (first | (with_reducible first | exact HB.out | apply below_alloc | apply pw_below_drewN | apply below_drew1) | exact HB.out)) hb); clear HO_7; clear HO177; clear HB; have HO_7 := n0_; have HO177 := n1_; have HO180 := n2_; have HB := n3_; clear n0_ n1_ n2_ n3_; clear hb ho27; obtain ⟨Ao28, co28, eo28⟩ := Kd.R_slice HO180.out; subst eo28; obtain ⟨Ao29, co29, eo29⟩ := Kd.R_slice HO177.out; subst eo29) | ((with_reducible refine gate_builtin (b := .append) (xs := #[.tmp 62, .tmp 68]) rfl ?_); (try (refine gate_guard (by rfl) ?_; dsimp only)); at_builtin; refine Kd.N_append k25 (w0 := w) w.heap.size rfl (.tmp 62) (.tmp 68) 23 25 (.agg #[(.slice none 0 0), (.slice none 0 0)]) 48 rfl Try.underlying23 info25 rfl (by decide) (by omega) u7 x7_2 (⟨y175, y178⟩ : S25) [.slice Ao29 y175.length co29, .slice Ao28 y178.length co28] (fun _ => True) (fun k_ => ((fun _ => True)) k_ ∧ some k_ ≠ (u7 : Value).ownBlock) rfl rfl ?aP (fun _ hk => hk) ?aF ?aO ?aB ?aS ?aL ?_; (case aP => exact (k25_mkF _ _ (⟨y175, y178⟩ : S25) (Kd.R_reads' (Kd.R_mono (ok' := (fun k_ => ((fun _ => True)) k_ ∧ some k_ ≠ (u7 : Value).ownBlock)) (Kd.R_apart' (HO177.out) (Kd.N_typed HO_7.out) (by decide)) (fun k_ hk => ⟨trivial, hk.2⟩))).2.1 (Kd.R_F (Kd.R_mono (ok' := (fun k_ => ((fun _ => True)) k_ ∧ some k_ ≠ (u7 : Value).ownBlock)) (Kd.R_apart' (HO177.out) (Kd.N_typed HO_7.out) (by decide)) (fun k_ hk => ⟨trivial, hk.2⟩))) (Kd.R_reads' (Kd.R_mono (ok' := (fun k_ => ((fun _ => True)) k_ ∧ some k_ ≠ (u7 : Value).ownBlock)) (Kd.R_apart' (HO180.out) (Kd.N_typed HO_7.out) (by decide)) (fun k_ hk => ⟨trivial, hk.2⟩))).2.1 (Kd.R_F (Kd.R_mono (ok' := (fun k_ => ((fun _ => True)) k_ ∧ some k_ ≠ (u7 : Value).ownBlock)) (Kd.R_apart' (HO180.out) (Kd.N_typed HO_7.out) (by decide)) (fun k_ hk => ⟨trivial, hk.2⟩))))); (case aB => exact (by repeat (first | (with_reducible first | exact HB.out | apply below_alloc | apply pw_below_drewN | apply below_drew1) | exact HB.out))); (case aF => exact (fun _ _ => trivial)); (case aO => exact (by (with_reducible repeat (first | apply Kd.N_alloc | apply Kd.N_drewN | apply Kd.N_drew)); exact Kd.N_mono HO_7.out (fun _ hk => trivial))); (case aS => exact (below_size (by repeat (first | (with_reducible first | exact HB.out | apply below_alloc | apply pw_below_drewN | apply below_drew1) | exact HB.out)))); (case aL => have := LMc20.out; omega); intro v182 w30 ho hb hg hat; rw [← Ny181.out] at ho; have n0_ := Aside0.mk (hb); have n1_ := Aside0.mk (ho); clear HB; clear HO_7; clear HO177; clear HO180; have HB := n0_; have HO183 := n1_; clear n0_ n1_; clear ho hb hg hat) | ((with_reducible refine gate_dst (N := 70) rfl ?_); (try (refine gate_guard (by rfl) ?_; dsimp only)); refine Kd.R_lit (Kd.int .i64) _ 3 ?hg (N := 70) ?hd (xs := ([0, 0] : List Int)) (inner := [.int .i64 0, .int .i64 0]) (ok := fun _ => True) (okp := fun _ => True) ?hr ?hp (fun _ hk => hk) trivial (Below.refl _ _) (Nat.le_refl _) (by simp) ?_; (case hd => rfl); (case hg => rfl); (case hr => first | (go_simp; done) | (go_simp; rfl)); (case hp => exact (Reps.one (show Kd.M (Kd.int .i64) _ _ _ 0 [.int .i64 0] from rfl) (Reps.one (show Kd.M (Kd.int .i64) _ _ _ 0 [.int .i64 0] from rfl) (Reps.none _ _)))); intro v185 w31 ho32 hb hg_ hnew_; clear hg_ hnew_; (first | rw [← Ny184.out] at ho32 | (simp only [Int.reduceToNat] at ho32; rw [← Ny184.out] at ho32)); have n0_ := Aside0.mk (Kd.N_elder' (by (with_reducible repeat (first | apply Kd.N_alloc | apply Kd.N_drewN | apply Kd.N_drew)); exact HO183.out) (Kd.R_base ho32) hb); have n1_ := Aside0.mk (Kd.R_lower ho32 (below_size (by repeat (first | (with_reducible first | exact HB.out | apply below_alloc | apply pw_below_drewN | apply below_drew1) | exact HB.out)))); have n2_ := Aside0.mk (below_step (by repeat (first | (with_reducible first | exact HB.out | apply below_alloc | apply pw_below_drewN | apply below_drew1) | exact HB.out)) hb); clear HO183; clear HB; have HO183 := n0_; have HO186 := n1_; have HB := n2_; clear n0_ n1_ n2_; clear hb ho32) | ((with_reducible refine gate_dst (N := 72) rfl ?_); (try (refine gate_guard (by rfl) ?_; dsimp only)); refine Kd.R_lit (Kd.int .i64) _ 3 ?hg (N := 72) ?hd (xs := ([a0, 5] : List Int)) (inner := [.int .i64 a0, .int .i64 5]) (ok := fun _ => True) (okp := fun _ => True) ?hr ?hp (fun _ hk => hk) trivial (Below.refl _ _) (Nat.le_refl _) (by simp) ?_; (case hd => rfl); (case hg => rfl); (case hr => first | (go_simp; done) | (go_simp; rfl)); (case hp => exact (Reps.one (show Kd.M (Kd.int .i64) _ _ _ a0 [.int .i64 a0] from rfl) (Reps.one (show Kd.M (Kd.int .i64) _ _ _ 5 [.int .i64 5] from rfl) (Reps.none _ _)))); intro v188 w33 ho34 hb hg_ hnew_; clear hg_ hnew_; (first | rw [← Ny187.out] at ho34 | (simp only [Int.reduceToNat] at ho34; rw [← Ny187.out] at ho34)); have n0_ := Aside0.mk (Kd.N_elder' (by (with_reducible repeat (first | apply Kd.N_alloc | apply Kd.N_drewN | apply Kd.N_drew)); exact HO183.out) (Kd.R_base ho34) hb); have n1_ := Aside0.mk (Kd.R_elder' (by (with_reducible repeat (first | apply Kd.R_alloc | apply Kd.R_drewN | apply Kd.R_drew)); exact HO186.out) (Kd.R_base ho34) hb); have n2_ := Aside0.mk (Kd.R_lower (Kd.R_new' ho34 (Kd.R_lt (by (with_reducible repeat (first | apply Kd.R_alloc | apply Kd.R_drewN | apply Kd.R_drew)); exact HO186.out))) (below_size (by repeat (first | (with_reducible first | exact HB.out | apply below_alloc | apply pw_below_drewN | apply below_drew1) | exact HB.out)))); have n3_ := Aside0.mk (below_step (by repeat (first | (with_reducible first | exact HB.out | apply below_alloc | apply pw_below_drewN | apply below_drew1) | exact HB.out)) hb); clear HO183; clear HO186; clear HB; have HO183 := n0_; have HO186 := n1_; have HO189 := n2_; have HB := n3_; clear n0_ n1_ n2_ n3_; clear hb ho34; obtain ⟨Ao35, co35, eo35⟩ := Kd.R_slice HO189.out; subst eo35; obtain ⟨Ao36, co36, eo36⟩ := Kd.R_slice HO186.out; subst eo36) | ((with_reducible refine gate_dst (N := 11) rfl ?_); (try (refine gate_guard (by rfl) ?_; dsimp only)); refine box_event ?hg (N := 11) ?hd (cs := #[.slice none 0 0, .slice none 0 0]) (t := 25) ?hr ?_; (case hd => rfl); (case hg => rfl); (case hr => first | (go_simp; done) | (go_simp; rfl)); intro gb190 hg w37 hbox hb; have n0_ := Aside0.mk (Kd.N_below (Kd.N_elderB (by (with_reducible repeat (first | apply Kd.N_alloc | apply Kd.N_drewN | apply Kd.N_drew)); exact HO183.out) gb190 (Nat.le_of_eq hg.symm)) hb); have n1_ := Aside0.mk (Kd.R_below (by (with_reducible repeat (first | apply Kd.R_alloc | apply Kd.R_drewN | apply Kd.R_drew)); exact HO186.out) hb); have n2_ := Aside0.mk (Kd.R_below (by (with_reducible repeat (first | apply Kd.R_alloc | apply Kd.R_drewN | apply Kd.R_drew)); exact HO189.out) hb); have n3_ := Aside0.mk (below_step (by repeat (first | (with_reducible first | exact HB.out | apply below_alloc | apply pw_below_drewN | apply below_drew1) | exact HB.out)) hb); have n4_ := Aside0.mk (hbox); have n5_ := Aside0.mk ((by rw [hg]; exact (below_size (by repeat (first | (with_reducible first | exact HB.out | apply below_alloc | apply pw_below_drewN | apply below_drew1) | exact HB.out))) : w.heap.size ≤ gb190)); have n6_ := Aside0.mk ((by rw [hg]; exact (below_size (by repeat (first | (with_reducible first | exact HB.out | apply below_alloc | apply pw_below_drewN | apply below_drew1) | exact HB.out))) : w.heap.size ≤ gb190)); clear HO183; clear HO186; clear HO189; clear HB; have HO183 := n0_; have HO186 := n1_; have HO189 := n2_; have HB := n3_; have BK190 := n4_; have GW190 := n5_; have GE190 := n6_; clear n0_ n1_ n2_ n3_ n4_ n5_ n6_; clear hb hbox hg; have hcz38_0 : w37.cell? ⟨gb190, 0, none⟩ = some (.slice none 0 0) := (blk_cell BK190.out 0).trans rfl; have hcz38_1 : w37.cell? ⟨gb190, 1, none⟩ = some (.slice none 0 0) := (blk_cell BK190.out 1).trans rfl; have hfz38_0 := blk_frozen BK190.out 0; have hfz38_1 := blk_frozen BK190.out 1; obtain ⟨Ao39, co39, eo39⟩ := Kd.N_slice HO183.out; subst eo39) | ((with_reducible refine gate_callee (f := 7) rfl ?_); refine goesL_ (some 77) rfl rfl Try.func7 (by kernel_rfl) rfl #[.slice Ao39 y181.length co39, .agg #[.slice Ao36 y184.length co36, .slice Ao35 y187.length co35]] rfl (by (try simp only [List.map_toArray, List.map_cons, List.map_nil]); first | done | rfl | (simp only [List.length_drop, List.length_take]; rfl)) ?_; (with_reducible refine (gaps_Hole.calls k2 _ _ y181 _ _ y184 _ _ y187 t191 t194 _ ?side1 ?side2 ?side3 ?side4 ?side5 ?side6 A21.out).mono ?_); (case side1 => refine (Kd.N_reads' (e := 25) (base := w.heap.size) (ok := fun k_ => (((True ∧ some k_ ≠ (.slice Ao36 y184.length co36 : Value).ownBlock) ∧ some k_ ≠ (.slice Ao35 y187.length co35 : Value).ownBlock) ∧ k_ ≠ gb190)) (n := y181.length) (c := co39) ?_).2.2; exact (by (with_reducible repeat (first | apply Kd.N_alloc | apply Kd.N_drewN | apply Kd.N_drew)); exact (Kd.N_mono (Kd.N_far (p := ⟨gb190, 1, none⟩) (Kd.N_far (p := ⟨gb190, 0, none⟩) (Kd.N_mono HO183.out (fun k_ hk => (⟨hk, hk.2⟩ : _ ∧ k_ ≠ gb190))) (fun _ hk => hk.2) (.slice Ao36 y184.length co36)) (fun _ hk => hk.2) (.slice Ao35 y187.length co35)) (fun _ h_ => h_.1)))); (case side2 => exact (Kd.N_reads' HO183.out).2.1); (case side3 => refine (Kd.R_reads' (e := 3) (base := w.heap.size) (ok := fun k_ => (True ∧ some k_ ≠ (.slice Ao35 y187.length co35 : Value).ownBlock)) (n := y184.length) (c := co36) ?_).2.2; exact (by (with_reducible repeat (first | apply Kd.R_alloc | apply Kd.R_drewN | apply Kd.R_drew)); exact (Kd.R_mono (Kd.R_far (p := ⟨gb190, 1, none⟩) (Kd.R_far (p := ⟨gb190, 0, none⟩) (Kd.R_types HO186.out BK190.out (by decide)) (fun _ hk => hk.2) (.slice Ao36 y184.length co36)) (fun _ hk => hk.2) (.slice Ao35 y187.length co35)) (fun _ h_ => h_.1)))); (case side4 => exact (Kd.R_reads' HO186.out).2.1); (case side5 => refine (Kd.R_reads' (e := 3) (base := w.heap.size) (ok := fun k_ => (True ∧ some k_ ≠ (.slice Ao36 y184.length co36 : Value).ownBlock)) (n := y187.length) (c := co35) ?_).2.2; exact (by (with_reducible repeat (first | apply Kd.R_alloc | apply Kd.R_drewN | apply Kd.R_drew)); exact (Kd.R_mono (Kd.R_far (p := ⟨gb190, 1, none⟩) (Kd.R_far (p := ⟨gb190, 0, none⟩) (Kd.R_types HO189.out BK190.out (by decide)) (fun _ hk => hk.2) (.slice Ao36 y184.length co36)) (fun _ hk => hk.2) (.slice Ao35 y187.length co35)) (fun _ h_ => h_.1)))); (case side6 => exact (Kd.R_reads' HO189.out).2.1); rintro e w40 ⟨v192, rfl, ho0, hb⟩; refine ⟨_, rfl, ?_⟩; have n0_ := Aside0.mk (Kd.N_elder' (by (with_reducible repeat (first | apply Kd.N_alloc | apply Kd.N_drewN | apply Kd.N_drew)); exact (Kd.N_mono (Kd.N_far (p := ⟨gb190, 1, none⟩) (Kd.N_far (p := ⟨gb190, 0, none⟩) (Kd.N_mono HO183.out (fun k_ hk => (⟨hk, hk.2⟩ : _ ∧ k_ ≠ gb190))) (fun _ hk => hk.2) (.slice Ao36 y184.length co36)) (fun _ hk => hk.2) (.slice Ao35 y187.length co35)) (fun _ h_ => h_.1))) (Kd.R_base ho0) hb); have n1_ := Aside0.mk (Kd.R_elder' (by (with_reducible repeat (first | apply Kd.R_alloc | apply Kd.R_drewN | apply Kd.R_drew)); exact (Kd.R_mono (Kd.R_far (p := ⟨gb190, 1, none⟩) (Kd.R_far (p := ⟨gb190, 0, none⟩) (Kd.R_types HO186.out BK190.out (by decide)) (fun _ hk => hk.2) (.slice Ao36 y184.length co36)) (fun _ hk => hk.2) (.slice Ao35 y187.length co35)) (fun _ h_ => h_.1))) (Kd.R_base ho0) hb); have n2_ := Aside0.mk (Kd.R_elder' (by (with_reducible repeat (first | apply Kd.R_alloc | apply Kd.R_drewN | apply Kd.R_drew)); exact (Kd.R_mono (Kd.R_far (p := ⟨gb190, 1, none⟩) (Kd.R_far (p := ⟨gb190, 0, none⟩) (Kd.R_types HO189.out BK190.out (by decide)) (fun _ hk => hk.2) (.slice Ao36 y184.length co36)) (fun _ hk => hk.2) (.slice Ao35 y187.length co35)) (fun _ h_ => h_.1))) (Kd.R_base ho0) hb); have n3_ := Aside0.mk (Kd.R_lower (Kd.R_new' (Kd.R_new' ho0 (Kd.R_lt (by (with_reducible repeat (first | apply Kd.R_alloc | apply Kd.R_drewN | apply Kd.R_drew)); exact (Kd.R_mono (Kd.R_far (p := ⟨gb190, 1, none⟩) (Kd.R_far (p := ⟨gb190, 0, none⟩) (Kd.R_types HO186.out BK190.out (by decide)) (fun _ hk => hk.2) (.slice Ao36 y184.length co36)) (fun _ hk => hk.2) (.slice Ao35 y187.length co35)) (fun _ h_ => h_.1))))) (Kd.R_lt (by (with_reducible repeat (first | apply Kd.R_alloc | apply Kd.R_drewN | apply Kd.R_drew)); exact (Kd.R_mono (Kd.R_far (p := ⟨gb190, 1, none⟩) (Kd.R_far (p := ⟨gb190, 0, none⟩) (Kd.R_types HO189.out BK190.out (by decide)) (fun _ hk => hk.2) (.slice Ao36 y184.length co36)) (fun _ hk => hk.2) (.slice Ao35 y187.length co35)) (fun _ h_ => h_.1))))) (below_size (by repeat (first | (with_reducible first | exact HB.out | apply below_alloc | apply pw_below_drewN | apply below_drew1 | refine below_set ?_ GE190.out) | exact HB.out)))); have n4_ := Aside0.mk (blk_below (g := gb190) (o := .cells #[.slice Ao36 y184.length co36, .slice Ao35 y187.length co35] 25 (0, 0)) (by (with_reducible repeat (first | refine blk_drewN ?_ _ | refine blk_drew ?_ | refine blk_alloc ?_ _)); refine blk_put (cs := #[.slice Ao36 y184.length co36, .slice none 0 0]) ?_ 1 _ rfl; (with_reducible repeat (first | refine blk_drewN ?_ _ | refine blk_drew ?_ | refine blk_alloc ?_ _)); refine blk_put (cs := #[.slice none 0 0, .slice none 0 0]) ?_ 0 _ rfl; (with_reducible repeat (first | refine blk_drewN ?_ _ | refine blk_drew ?_ | refine blk_alloc ?_ _)); exact BK190.out) hb); have n5_ := Aside0.mk (below_step (by repeat (first | (with_reducible first | exact HB.out | apply below_alloc | apply pw_below_drewN | apply below_drew1 | refine below_set ?_ GE190.out) | exact HB.out)) hb); clear HO183; clear HO186; clear HO189; clear BK190; clear HB; have HO183 := n0_; have HO186 := n1_; have HO189 := n2_; have HO193 := n3_; have BK190 := n4_; have HB := n5_; clear n0_ n1_ n2_ n3_ n4_ n5_; (try clear hb); (try clear hb2); (try clear hk); (try clear hi); (try clear ho0)) | ((with_reducible refine gate_callee (f := 8) rfl ?_); refine goesL_ (some 82) rfl rfl Try.func8 (by kernel_rfl) rfl #[.slice Ao39 y181.length co39] rfl (by (try simp only [List.map_toArray, List.map_cons, List.map_nil]); first | done | rfl | (simp only [List.length_drop, List.length_take]; rfl)) ?_; (with_reducible refine (gaps_Overlap.calls k2 _ _ y181 t195 t196 t197 _ ?side1 ?side2 A22.out).mono ?_); (case side1 => repeat (first | exact (Kd.N_reads' HO183.out).2.2 | (with_reducible refine Kd.C_alloc ?_ _) | (with_reducible refine Kd.C_drewN ?_ _) | (with_reducible refine Kd.C_drew ?_))); (case side2 => exact (Kd.N_reads' HO183.out).2.1); rintro e w41 ⟨rfl, hb⟩; refine ⟨_, rfl, ?_⟩; have n0_ := Aside0.mk (Kd.N_below (by (with_reducible repeat (first | apply Kd.N_alloc | apply Kd.N_drewN | apply Kd.N_drew)); exact HO183.out) hb); have n1_ := Aside0.mk (Kd.R_below (by (with_reducible repeat (first | apply Kd.R_alloc | apply Kd.R_drewN | apply Kd.R_drew)); exact HO186.out) hb); have n2_ := Aside0.mk (Kd.R_below (by (with_reducible repeat (first | apply Kd.R_alloc | apply Kd.R_drewN | apply Kd.R_drew)); exact HO189.out) hb); have n3_ := Aside0.mk (Kd.R_below (by (with_reducible repeat (first | apply Kd.R_alloc | apply Kd.R_drewN | apply Kd.R_drew)); exact HO193.out) hb); have n4_ := Aside0.mk (blk_below (g := gb190) (o := .cells #[.slice Ao36 y184.length co36, .slice Ao35 y187.length co35] 25 (0, 0)) (by (with_reducible repeat (first | refine blk_drewN ?_ _ | refine blk_drew ?_ | refine blk_alloc ?_ _)); exact BK190.out) hb); have n5_ := Aside0.mk (below_step (by repeat (first | (with_reducible first | exact HB.out | apply below_alloc | apply pw_below_drewN | apply below_drew1 | refine below_set ?_ GE190.out) | exact HB.out)) hb); clear HO183; clear HO186; clear HO189; clear HO193; clear BK190; clear HB; have HO183 := n0_; have HO186 := n1_; have HO189 := n2_; have HO193 := n3_; have BK190 := n4_; have HB := n5_; clear n0_ n1_ n2_ n3_ n4_ n5_; (try clear hb); (try clear hb2); (try clear hk); (try clear hi)))
                (try simp only [Act.put, List.setIfInBounds_toArray, List.set_cons_zero, List.set_cons_succ])
                go_cut [89] (fun v89 wc => ∃ (kq : Nat) (x89_22 : Bool), v89 = .bool x89_22 ∧ Aside0 (dossierlaw9_GapsParts.j2 kq a2 y181 x89_22 y184 y187 = some r) ∧ Aside0 (kq ≤ k2) ∧ Aside0 (Kd.N k25 25 wc w.heap.size (fun k_ => some k_ ≠ ((.slice Ao36 y184.length co36) : Value).ownBlock ∧ some k_ ≠ ((.slice Ao35 y187.length co35) : Value).ownBlock ∧ k_ ≠ gb190) (.slice Ao39 y181.length co39) y181) ∧ Aside0 (Kd.R (Kd.int .i64) 3 wc w.heap.size (fun k_ => some k_ ≠ ((.slice Ao35 y187.length co35) : Value).ownBlock) (.slice Ao36 y184.length co36) y184) ∧ Aside0 (Kd.R (Kd.int .i64) 3 wc w.heap.size (fun k_ => some k_ ≠ ((.slice Ao36 y184.length co36) : Value).ownBlock) (.slice Ao35 y187.length co35) y187) ∧ Aside0 (wc.heap[gb190]? = some (.cells #[(.slice Ao36 y184.length co36), (.slice Ao35 y187.length co35)] 25 (0, 0))) ∧ Aside0 (Below w.heap.size w wc))
                case first =>
                  have H := HC23.out
                  clear HC23
                  by_cases c42 : t194 = true
                  · subst c42
                    have H1 : (dossierlaw9_GapsParts.j2 k2 a2 y181 true y184 y187) = some r := by rw [if_pos rfl] at H; exact H
                    clear H
                    have H := H1
                    clear H1
                    as_aux_lemma =>
                      have H' := Aside0.mk H
                      clear H
                      go_wp2
                      go_meet
                      case rel => exact ⟨_, (true), (by first | rfl | (simp; done) | (simp [*]; done)), H', ⟨by have := HJ3.out; have := HK2.out; first | omega | exact Nat.le_refl _⟩, ⟨by (with_reducible repeat (first | apply Kd.N_alloc | apply Kd.N_drewN | apply Kd.N_drew)); exact Kd.N_mono HO183.out (fun _ hk => ⟨hk.1.1.1.2, ⟨hk.1.1.2, hk.1.2⟩⟩)⟩, ⟨by (with_reducible repeat (first | apply Kd.R_alloc | apply Kd.R_drewN | apply Kd.R_drew)); exact Kd.R_mono HO186.out (fun _ hk => hk.1.2)⟩, ⟨by (with_reducible repeat (first | apply Kd.R_alloc | apply Kd.R_drewN | apply Kd.R_drew)); exact Kd.R_mono HO189.out (fun _ hk => hk.1.2)⟩, ⟨by (with_reducible repeat (first | refine blk_drewN ?_ _ | refine blk_drew ?_ | refine blk_alloc ?_ _)); exact BK190.out⟩, ⟨by repeat (first | (with_reducible first | exact HB.out | apply below_alloc | apply pw_below_drewN | apply below_drew1 | refine below_set ?_ GE190.out) | exact HB.out)⟩⟩
                  · replace c42 := Bool.eq_false_iff.mpr c42
                    subst c42
                    have H1 : (dossierlaw9_GapsParts.j2 k2 a2 y181 t197 y184 y187) = some r := by rw [if_neg (show ¬ (false = true) by decide)] at H; exact H
                    clear H
                    have H := H1
                    clear H1
                    as_aux_lemma =>
                      have H' := Aside0.mk H
                      clear H
                      go_wp2
                      go_meet
                      case rel => exact ⟨_, (t197), (by first | rfl | (simp; done) | (simp [*]; done)), H', ⟨by have := HJ3.out; have := HK2.out; first | omega | exact Nat.le_refl _⟩, ⟨by (with_reducible repeat (first | apply Kd.N_alloc | apply Kd.N_drewN | apply Kd.N_drew)); exact Kd.N_mono HO183.out (fun _ hk => ⟨hk.1.1.1.2, ⟨hk.1.1.2, hk.1.2⟩⟩)⟩, ⟨by (with_reducible repeat (first | apply Kd.R_alloc | apply Kd.R_drewN | apply Kd.R_drew)); exact Kd.R_mono HO186.out (fun _ hk => hk.1.2)⟩, ⟨by (with_reducible repeat (first | apply Kd.R_alloc | apply Kd.R_drewN | apply Kd.R_drew)); exact Kd.R_mono HO189.out (fun _ hk => hk.1.2)⟩, ⟨by (with_reducible repeat (first | refine blk_drewN ?_ _ | refine blk_drew ?_ | refine blk_alloc ?_ _)); exact BK190.out⟩, ⟨by repeat (first | (with_reducible first | exact HB.out | apply below_alloc | apply pw_below_drewN | apply below_drew1 | refine below_set ?_ GE190.out) | exact HB.out)⟩⟩
                case rest =>
                  clear HC23
                  try clear c1
                  try clear p1
                  try clear q1
                  try clear hx1
                  try clear c2
                  try clear p2
                  try clear c3
                  try clear c4
                  try clear c5
                  try clear c5b0
                  try clear c6
                  try clear c6b0
                  try clear p6
                  try clear c7
                  try clear c7b0
                  try clear c7b1
                  try clear c8
                  try clear c9
                  try clear c9b0
                  try clear c10
                  try clear c10b0
                  try clear c11
                  try clear c11b0
                  try clear c12
                  try clear p16
                  try clear q16
                  try clear hx16
                  try clear c20
                  try clear c42
                  try clear hcz38_0
                  try clear hcz38_1
                  try clear hfz38_0
                  try clear hfz38_1
                  try clear hx165_0
                  try clear p165
                  try clear p2
                  try clear q165
                  obtain ⟨kq, x89_22, rfl, HA, HJ22, HO_7, HO_191000, HO_191001, BK190, HB⟩ := hcut
                  cases kq with
                  | zero => exact absurd HA.out (by simp [dossierlaw9_GapsParts.j2])
                  | succ kj22 =>
                    have H := HA.out
                    clear HA
                    simp only [dossierlaw9_GapsParts.j2] at H
                    by_cases c43 : x89_22 = true
                    · subst c43
                      have H1 : (some false) = some r := by rw [if_pos rfl] at H; exact H
                      clear H
                      have H := H1
                      clear H1
                      as_aux_lemma =>
                        exact absurd ((Option.some.inj H).trans hr_.out) (by decide)
                    · replace c43 := Bool.eq_false_iff.mpr c43
                      subst c43
                      have H1 : (if a2 < 0 then (dossierlaw9_GapsParts.j3 kj22 a2 y181 true y184 y187) else (dossierlaw9_GapsParts.j3 kj22 a2 y181 (decide (a2 ≥ (y181.length : Int))) y184 y187)) = some r := by rw [if_neg (show ¬ (false = true) by decide)] at H; exact H
                      clear H
                      have H := H1
                      clear H1
                      have HC44 := Aside0.mk H
                      clear H
                      go_upto_region 18 with (fail)
                      go_cut [97] (fun v97 wc => ∃ (kq : Nat) (x97_43 : Bool), v97 = .bool x97_43 ∧ Aside0 (dossierlaw9_GapsParts.j3 kq a2 y181 x97_43 y184 y187 = some r) ∧ Aside0 (kq ≤ kj22) ∧ Aside0 (Kd.N k25 25 wc w.heap.size (fun k_ => some k_ ≠ ((.slice Ao36 y184.length co36) : Value).ownBlock ∧ some k_ ≠ ((.slice Ao35 y187.length co35) : Value).ownBlock ∧ k_ ≠ gb190) (.slice Ao39 y181.length co39) y181) ∧ Aside0 (Kd.R (Kd.int .i64) 3 wc w.heap.size (fun k_ => some k_ ≠ ((.slice Ao35 y187.length co35) : Value).ownBlock) (.slice Ao36 y184.length co36) y184) ∧ Aside0 (Kd.R (Kd.int .i64) 3 wc w.heap.size (fun k_ => some k_ ≠ ((.slice Ao36 y184.length co36) : Value).ownBlock) (.slice Ao35 y187.length co35) y187) ∧ Aside0 (wc.heap[gb190]? = some (.cells #[(.slice Ao36 y184.length co36), (.slice Ao35 y187.length co35)] 25 (0, 0))) ∧ Aside0 (Below w.heap.size w wc))
                      case first =>
                        have H := HC44.out
                        clear HC44
                        by_cases c45 : a2 < 0
                        · rw [if_pos c45] at H
                          have c45b0 : decide (a2 < 0) = true := decide_eq_true c45
                          clear c45
                          (first | rw [c45b0] | (simp only [i64_w, i32_w]; rw [c45b0]) | skip)
                          as_aux_lemma =>
                            have H' := Aside0.mk H
                            clear H
                            go_wp2
                            go_meet
                            case rel => exact ⟨_, (true), (by first | rfl | (simp; done) | (simp [*]; done)), H', ⟨by have := HJ3.out; have := HK2.out; have := HJ22.out; first | omega | exact Nat.le_refl _⟩, ⟨by (with_reducible repeat (first | apply Kd.N_alloc | apply Kd.N_drewN | apply Kd.N_drew)); exact HO_7.out⟩, ⟨by (with_reducible repeat (first | apply Kd.R_alloc | apply Kd.R_drewN | apply Kd.R_drew)); exact HO_191000.out⟩, ⟨by (with_reducible repeat (first | apply Kd.R_alloc | apply Kd.R_drewN | apply Kd.R_drew)); exact HO_191001.out⟩, ⟨by (with_reducible repeat (first | refine blk_drewN ?_ _ | refine blk_drew ?_ | refine blk_alloc ?_ _)); exact BK190.out⟩, ⟨by repeat (first | (with_reducible first | exact HB.out | apply below_alloc | apply pw_below_drewN | apply below_drew1 | refine below_set ?_ GE190.out) | exact HB.out)⟩⟩
                        · rw [if_neg c45] at H
                          have c45b0 : decide (a2 < 0) = false := decide_eq_false c45
                          clear c45
                          (first | rw [c45b0] | (simp only [i64_w, i32_w]; rw [c45b0]) | skip)
                          as_aux_lemma =>
                            have H' := Aside0.mk H
                            clear H
                            go_wp2
                            go_meet
                            case rel => exact ⟨_, (decide (a2 ≥ (y181.length : Int))), (by first | rfl | (simp; done) | (simp [*]; done)), H', ⟨by have := HJ3.out; have := HK2.out; have := HJ22.out; first | omega | exact Nat.le_refl _⟩, ⟨by (with_reducible repeat (first | apply Kd.N_alloc | apply Kd.N_drewN | apply Kd.N_drew)); exact HO_7.out⟩, ⟨by (with_reducible repeat (first | apply Kd.R_alloc | apply Kd.R_drewN | apply Kd.R_drew)); exact HO_191000.out⟩, ⟨by (with_reducible repeat (first | apply Kd.R_alloc | apply Kd.R_drewN | apply Kd.R_drew)); exact HO_191001.out⟩, ⟨by (with_reducible repeat (first | refine blk_drewN ?_ _ | refine blk_drew ?_ | refine blk_alloc ?_ _)); exact BK190.out⟩, ⟨by repeat (first | (with_reducible first | exact HB.out | apply below_alloc | apply pw_below_drewN | apply below_drew1 | refine below_set ?_ GE190.out) | exact HB.out)⟩⟩
                      case rest =>
                        clear HC44
                        try clear c1
                        try clear p1
                        try clear q1
                        try clear hx1
                        try clear c2
                        try clear p2
                        try clear c3
                        try clear c4
                        try clear c5
                        try clear c5b0
                        try clear c6
                        try clear c6b0
                        try clear p6
                        try clear c7
                        try clear c7b0
                        try clear c7b1
                        try clear c8
                        try clear c9
                        try clear c9b0
                        try clear c10
                        try clear c10b0
                        try clear c11
                        try clear c11b0
                        try clear c12
                        try clear p16
                        try clear q16
                        try clear hx16
                        try clear c20
                        try clear c42
                        try clear c43
                        try clear c45
                        try clear c45b0
                        try clear hcz38_0
                        try clear hcz38_1
                        try clear hfz38_0
                        try clear hfz38_1
                        try clear hx165_0
                        try clear p1
                        try clear p16
                        try clear p165
                        try clear p2
                        try clear p6
                        try clear q1
                        try clear q16
                        try clear q165
                        obtain ⟨kq, x97_43, rfl, HA, HJ43, HO_7, HO_191000, HO_191001, BK190, HB⟩ := hcut
                        cases kq with
                        | zero => exact absurd HA.out (by simp [dossierlaw9_GapsParts.j3])
                        | succ kj43 =>
                          have H := HA.out
                          clear HA
                          simp only [dossierlaw9_GapsParts.j3] at H
                          by_cases c46 : x97_43 = true
                          · subst c46
                            have H1 : ((dossierlaw9_known.f).bind fun t198 => (some t198)) = some r := by rw [if_pos rfl] at H; exact H
                            clear H
                            have H := H1
                            clear H1
                            replace H := Option.bind_eq_some_iff.mp H
                            obtain ⟨t198, A470, H⟩ := H
                            replace H : (some t198) = some r := H
                            have A47 := Aside0.mk A470
                            clear A470
                            as_aux_lemma =>
                              obtain rfl := Option.some.inj H
                              go_wp2_with (first | ((with_reducible refine gate_callee (f := 9) rfl ?_); refine goesL_ (some 98) rfl rfl Try.func9 (by kernel_rfl) rfl #[] rfl (by (try simp only [List.map_toArray, List.map_cons, List.map_nil]); first | done | rfl | (simp only [List.length_drop, List.length_take]; rfl)) ?_; (with_reducible refine (dossierlaw9_known.calls  t198 _ A47.out).mono ?_); rintro e w48 ⟨rfl, hb⟩; refine ⟨_, rfl, ?_⟩; have n0_ := Aside0.mk (Kd.N_below (by (with_reducible repeat (first | apply Kd.N_alloc | apply Kd.N_drewN | apply Kd.N_drew)); exact HO_7.out) hb); have n1_ := Aside0.mk (Kd.R_below (by (with_reducible repeat (first | apply Kd.R_alloc | apply Kd.R_drewN | apply Kd.R_drew)); exact HO_191000.out) hb); have n2_ := Aside0.mk (Kd.R_below (by (with_reducible repeat (first | apply Kd.R_alloc | apply Kd.R_drewN | apply Kd.R_drew)); exact HO_191001.out) hb); have n3_ := Aside0.mk (blk_below (g := gb190) (o := .cells #[.slice Ao36 y184.length co36, .slice Ao35 y187.length co35] 25 (0, 0)) (by (with_reducible repeat (first | refine blk_drewN ?_ _ | refine blk_drew ?_ | refine blk_alloc ?_ _)); exact BK190.out) hb); have n4_ := Aside0.mk (below_step (by repeat (first | (with_reducible first | exact HB.out | apply below_alloc | apply pw_below_drewN | apply below_drew1 | refine below_set ?_ GE190.out) | exact HB.out)) hb); clear HO_7; clear HO_191000; clear HO_191001; clear BK190; clear HB; have HO_7 := n0_; have HO_191000 := n1_; have HO_191001 := n2_; have BK190 := n3_; have HB := n4_; clear n0_ n1_ n2_ n3_ n4_; (try clear hb); (try clear hb2); (try clear hk); (try clear hi)))
                              go_ret
                              exact ⟨by first | rfl | (simp [errW_none, errW_some] <;> rfl) | (simp [*, errW_none, errW_some] <;> rfl), by repeat (first | (with_reducible first | exact HB.out | apply below_alloc | apply pw_below_drewN | apply below_drew1 | refine below_set ?_ GE190.out) | exact HB.out)⟩
                          · replace c46 := Bool.eq_false_iff.mpr c46
                            subst c46
                            have H1 : (if 0 ≤ a2 then (if a2 < (y181.length : Int) then ((some (([] : List (S25)) : List (S25))).bind fun y201 => (if a2 ≤ (y181.length : Int) then ((some (y181.take (a2 : Int).toNat : List (S25))).bind fun y204 => (if y201.length + y204.length < 2932031007402 then ((some (y201 ++ y204 : List (S25))).bind fun y209 => (if 0 ≤ (wrap64 (a2 + 1)) then (if (wrap64 (a2 + 1)) ≤ (y181.length : Int) then ((some (y181.drop ((wrap64 (a2 + 1)) : Int).toNat : List (S25))).bind fun y212 => (if y209.length + y212.length < 2932031007402 then ((gaps_Hole.f kj43 (y209 ++ y212) y184 y187).bind fun bt220 => (if bt220.2 = true then (if (bt220.1.length : Int) = 2 then (if 0 < (bt220.1.length : Int) then (if 0 < (((rd_T25 y181 a2).f0).length : Int) then (if (rd bt220.1 0) = (rd ((rd_T25 y181 a2).f0) 0) then (if 1 < (bt220.1.length : Int) then (if (rd bt220.1 1) = 0 then ((dossierlaw9_known.f).bind fun t227 => (some t227)) else (some false)) else (none)) else (some false)) else (none)) else (none)) else (some false)) else (some false))) else (none))) else (none)) else (none))) else (none))) else (none))) else (none)) else (none)) = some r := by rw [if_neg (show ¬ (false = true) by decide)] at H; exact H
                            clear H
                            have H := H1
                            clear H1
                            by_cases c49 : 0 ≤ a2
                            · rw [if_pos c49] at H
                              have c49b0 : decide (0 ≤ a2) = true := decide_eq_true c49
                              clear c49
                              by_cases c50 : a2 < (y181.length : Int)
                              · rw [if_pos c50] at H
                                have c50b0 : decide (a2 < (y181.length : Int)) = true := decide_eq_true c50
                                clear c50
                                obtain ⟨y201, hy201⟩ : ∃ y_ : List (S25), y_ = (([] : List (S25))) := ⟨_, rfl⟩
                                replace H : (if a2 ≤ (y181.length : Int) then ((some (y181.take (a2 : Int).toNat : List (S25))).bind fun y204 => (if y201.length + y204.length < 2932031007402 then ((some (y201 ++ y204 : List (S25))).bind fun y209 => (if 0 ≤ (wrap64 (a2 + 1)) then (if (wrap64 (a2 + 1)) ≤ (y181.length : Int) then ((some (y181.drop ((wrap64 (a2 + 1)) : Int).toNat : List (S25))).bind fun y212 => (if y209.length + y212.length < 2932031007402 then ((gaps_Hole.f kj43 (y209 ++ y212) y184 y187).bind fun bt220 => (if bt220.2 = true then (if (bt220.1.length : Int) = 2 then (if 0 < (bt220.1.length : Int) then (if 0 < (((rd_T25 y181 a2).f0).length : Int) then (if (rd bt220.1 0) = (rd ((rd_T25 y181 a2).f0) 0) then (if 1 < (bt220.1.length : Int) then (if (rd bt220.1 1) = 0 then ((dossierlaw9_known.f).bind fun t227 => (some t227)) else (some false)) else (none)) else (some false)) else (none)) else (none)) else (some false)) else (some false))) else (none))) else (none)) else (none))) else (none))) else (none)) = some r := by first | (rw [hy201]; with_reducible exact H) | (have H2_ := (Option.bind_some _ _).symm.trans H; rw [hy201]; with_reducible exact H2_) | (have H2_ := (Option.bind_some _ _).symm.trans H; with_reducible exact H2_) | with_reducible exact H | (rw [hy201]; exact H) | exact H
                                have Ny201 := Aside0.mk hy201
                                clear hy201
                                have c51b0 := eq_true (of_decide_eq_true (by first | (with_reducible assumption) | assumption) : 0 ≤ a2)
                                by_cases c52 : a2 ≤ (y181.length : Int)
                                · rw [if_pos c52] at H
                                  have c52b0 := eq_true c52
                                  have c52b1 : decide (a2 ≤ (y181.length : Int)) = true := decide_eq_true c52
                                  clear c52
                                  obtain ⟨y204, hy204⟩ : ∃ y_ : List (S25), y_ = (y181.take (a2 : Int).toNat) := ⟨_, rfl⟩
                                  replace H : (if y201.length + y204.length < 2932031007402 then ((some (y201 ++ y204 : List (S25))).bind fun y209 => (if 0 ≤ (wrap64 (a2 + 1)) then (if (wrap64 (a2 + 1)) ≤ (y181.length : Int) then ((some (y181.drop ((wrap64 (a2 + 1)) : Int).toNat : List (S25))).bind fun y212 => (if y209.length + y212.length < 2932031007402 then ((gaps_Hole.f kj43 (y209 ++ y212) y184 y187).bind fun bt220 => (if bt220.2 = true then (if (bt220.1.length : Int) = 2 then (if 0 < (bt220.1.length : Int) then (if 0 < (((rd_T25 y181 a2).f0).length : Int) then (if (rd bt220.1 0) = (rd ((rd_T25 y181 a2).f0) 0) then (if 1 < (bt220.1.length : Int) then (if (rd bt220.1 1) = 0 then ((dossierlaw9_known.f).bind fun t227 => (some t227)) else (some false)) else (none)) else (some false)) else (none)) else (none)) else (some false)) else (some false))) else (none))) else (none)) else (none))) else (none)) = some r := by first | (rw [hy204]; with_reducible exact H) | (have H2_ := (Option.bind_some _ _).symm.trans H; rw [hy204]; with_reducible exact H2_) | (have H2_ := (Option.bind_some _ _).symm.trans H; with_reducible exact H2_) | with_reducible exact H | (rw [hy204]; exact H) | exact H
                                  have Ny204 := Aside0.mk hy204
                                  clear hy204
                                  by_cases c53 : y201.length + y204.length < 2932031007402
                                  · rw [if_pos c53] at H
                                    have LMc53 := Aside0.mk c53
                                    clear c53
                                    obtain ⟨y209, hy209⟩ : ∃ y_ : List (S25), y_ = (y201 ++ y204) := ⟨_, rfl⟩
                                    replace H : (if 0 ≤ (wrap64 (a2 + 1)) then (if (wrap64 (a2 + 1)) ≤ (y181.length : Int) then ((some (y181.drop ((wrap64 (a2 + 1)) : Int).toNat : List (S25))).bind fun y212 => (if y209.length + y212.length < 2932031007402 then ((gaps_Hole.f kj43 (y209 ++ y212) y184 y187).bind fun bt220 => (if bt220.2 = true then (if (bt220.1.length : Int) = 2 then (if 0 < (bt220.1.length : Int) then (if 0 < (((rd_T25 y181 a2).f0).length : Int) then (if (rd bt220.1 0) = (rd ((rd_T25 y181 a2).f0) 0) then (if 1 < (bt220.1.length : Int) then (if (rd bt220.1 1) = 0 then ((dossierlaw9_known.f).bind fun t227 => (some t227)) else (some false)) else (none)) else (some false)) else (none)) else (none)) else (some false)) else (some false))) else (none))) else (none)) else (none)) = some r := by first | (rw [hy209]; with_reducible exact H) | (have H2_ := (Option.bind_some _ _).symm.trans H; rw [hy209]; with_reducible exact H2_) | (have H2_ := (Option.bind_some _ _).symm.trans H; with_reducible exact H2_) | with_reducible exact H | (rw [hy209]; exact H) | exact H
                                    have Ny209 := Aside0.mk hy209
                                    clear hy209
                                    obtain ⟨ji54, hji54⟩ : ∃ j_ : Int, (wrap64 (a2 + 1)) = j_ := ⟨_, rfl⟩
                                    replace H : (if 0 ≤ (ji54) then (if (ji54) ≤ (y181.length : Int) then ((some (y181.drop ((ji54) : Int).toNat : List (S25))).bind fun y212 => (if y209.length + y212.length < 2932031007402 then ((gaps_Hole.f kj43 (y209 ++ y212) y184 y187).bind fun bt220 => (if bt220.2 = true then (if (bt220.1.length : Int) = 2 then (if 0 < (bt220.1.length : Int) then (if 0 < (((rd_T25 y181 a2).f0).length : Int) then (if (rd bt220.1 0) = (rd ((rd_T25 y181 a2).f0) 0) then (if 1 < (bt220.1.length : Int) then (if (rd bt220.1 1) = 0 then ((dossierlaw9_known.f).bind fun t227 => (some t227)) else (some false)) else (none)) else (some false)) else (none)) else (none)) else (some false)) else (some false))) else (none))) else (none)) else (none)) = some r := by first | (rw [hji54] at H; exact H) | (simp only [hji54] at H ⊢; exact H)
                                    have hji54w : (IntKind.i64.wrap (a2 + 1)) = ji54 := (i64_w _).trans hji54
                                    by_cases c55 : 0 ≤ (ji54)
                                    · rw [if_pos c55] at H
                                      have c55b0 := eq_true c55
                                      have c55b1 : decide (0 ≤ (ji54)) = true := decide_eq_true c55
                                      clear c55
                                      by_cases c56 : (ji54) ≤ (y181.length : Int)
                                      · rw [if_pos c56] at H
                                        have c56b0 := eq_true c56
                                        have c56b1 : decide ((ji54) ≤ (y181.length : Int)) = true := decide_eq_true c56
                                        clear c56
                                        obtain ⟨y212, hy212⟩ : ∃ y_ : List (S25), y_ = (y181.drop ((ji54) : Int).toNat) := ⟨_, rfl⟩
                                        replace H : (if y209.length + y212.length < 2932031007402 then ((gaps_Hole.f kj43 (y209 ++ y212) y184 y187).bind fun bt220 => (if bt220.2 = true then (if (bt220.1.length : Int) = 2 then (if 0 < (bt220.1.length : Int) then (if 0 < (((rd_T25 y181 a2).f0).length : Int) then (if (rd bt220.1 0) = (rd ((rd_T25 y181 a2).f0) 0) then (if 1 < (bt220.1.length : Int) then (if (rd bt220.1 1) = 0 then ((dossierlaw9_known.f).bind fun t227 => (some t227)) else (some false)) else (none)) else (some false)) else (none)) else (none)) else (some false)) else (some false))) else (none)) = some r := by first | (rw [hy212]; with_reducible exact H) | (have H2_ := (Option.bind_some _ _).symm.trans H; rw [hy212]; with_reducible exact H2_) | (have H2_ := (Option.bind_some _ _).symm.trans H; with_reducible exact H2_) | with_reducible exact H | (rw [hy212]; exact H) | exact H
                                        have Ny212 := Aside0.mk hy212
                                        clear hy212
                                        by_cases c57 : y209.length + y212.length < 2932031007402
                                        · rw [if_pos c57] at H
                                          have LMc57 := Aside0.mk c57
                                          clear c57
                                          obtain ⟨y217, hy217⟩ : ∃ y_ : List (S25), y_ = (y209 ++ y212) := ⟨_, rfl⟩
                                          replace H : ((gaps_Hole.f kj43 y217 y184 y187).bind fun bt220 => (if bt220.2 = true then (if (bt220.1.length : Int) = 2 then (if 0 < (bt220.1.length : Int) then (if 0 < (((rd_T25 y181 a2).f0).length : Int) then (if (rd bt220.1 0) = (rd ((rd_T25 y181 a2).f0) 0) then (if 1 < (bt220.1.length : Int) then (if (rd bt220.1 1) = 0 then ((dossierlaw9_known.f).bind fun t227 => (some t227)) else (some false)) else (none)) else (some false)) else (none)) else (none)) else (some false)) else (some false))) = some r := by first | (rw [hy217]; with_reducible exact H) | (have H2_ := (Option.bind_some _ _).symm.trans H; rw [hy217]; with_reducible exact H2_) | (have H2_ := (Option.bind_some _ _).symm.trans H; with_reducible exact H2_) | with_reducible exact H | (rw [hy217]; exact H) | exact H
                                          have Ny217 := Aside0.mk hy217
                                          clear hy217
                                          replace H := Option.bind_eq_some_iff.mp H
                                          obtain ⟨⟨t220, t223⟩, A580, H⟩ := H
                                          replace H : (if t223 = true then (if (t220.length : Int) = 2 then (if 0 < (t220.length : Int) then (if 0 < (((rd_T25 y181 a2).f0).length : Int) then (if (rd t220 0) = (rd ((rd_T25 y181 a2).f0) 0) then (if 1 < (t220.length : Int) then (if (rd t220 1) = 0 then ((dossierlaw9_known.f).bind fun t227 => (some t227)) else (some false)) else (none)) else (some false)) else (none)) else (none)) else (some false)) else (some false)) = some r := H
                                          have A58 := Aside0.mk A580
                                          clear A580
                                          by_cases c59 : t223 = true
                                          · subst c59
                                            have H1 : (if (t220.length : Int) = 2 then (if 0 < (t220.length : Int) then (if 0 < (((rd_T25 y181 a2).f0).length : Int) then (if (rd t220 0) = (rd ((rd_T25 y181 a2).f0) 0) then (if 1 < (t220.length : Int) then (if (rd t220 1) = 0 then ((dossierlaw9_known.f).bind fun t227 => (some t227)) else (some false)) else (none)) else (some false)) else (none)) else (none)) else (some false)) = some r := by rw [if_pos rfl] at H; exact H
                                            clear H
                                            have H := H1
                                            clear H1
                                            by_cases c60 : (t220.length : Int) = 2
                                            · rw [if_pos c60] at H
                                              have c60b0 : ((t220.length : Int) == 2) = true := beq_iff_eq.mpr c60
                                              have c60b1 : ((t220.length : Int) != 2) = false := bne_eq_false_iff_eq.mpr c60
                                              clear c60
                                              by_cases c61 : 0 < (t220.length : Int)
                                              · rw [if_pos c61] at H
                                                have c61b0 : decide (0 < (t220.length : Int)) = true := decide_eq_true c61
                                                have c61b1 : decide (0 < t220.length) = true := decide_eq_true (by omega)
                                                clear c61
                                                by_cases c62 : 0 < (((rd_T25 y181 a2).f0).length : Int)
                                                · rw [if_pos c62] at H
                                                  have c62b0 : decide (0 < (((rd_T25 y181 a2).f0).length : Int)) = true := decide_eq_true c62
                                                  have c62b1 : decide (0 < ((rd_T25 y181 a2).f0).length) = true := decide_eq_true (by omega)
                                                  clear c62
                                                  by_cases c63 : (rd t220 0) = (rd ((rd_T25 y181 a2).f0) 0)
                                                  · rw [if_pos c63] at H
                                                    have c63b0 : ((rd t220 0) == (rd ((rd_T25 y181 a2).f0) 0)) = true := beq_iff_eq.mpr c63
                                                    have c63b1 : ((rd t220 0) != (rd ((rd_T25 y181 a2).f0) 0)) = false := bne_eq_false_iff_eq.mpr c63
                                                    clear c63
                                                    by_cases c64 : 1 < (t220.length : Int)
                                                    · rw [if_pos c64] at H
                                                      have c64b0 : decide (1 < (t220.length : Int)) = true := decide_eq_true c64
                                                      have c64b1 : decide (1 < t220.length) = true := decide_eq_true (by omega)
                                                      clear c64
                                                      by_cases c65 : (rd t220 1) = 0
                                                      · rw [if_pos c65] at H
                                                        have c65b0 : ((rd t220 1) == 0) = true := beq_iff_eq.mpr c65
                                                        have c65b1 : ((rd t220 1) != 0) = false := bne_eq_false_iff_eq.mpr c65
                                                        clear c65
                                                        replace H := Option.bind_eq_some_iff.mp H
                                                        obtain ⟨t227, A660, H⟩ := H
                                                        replace H : (some t227) = some r := H
                                                        have A66 := Aside0.mk A660
                                                        clear A660
                                                        as_aux_lemma =>
                                                          obtain rfl := Option.some.inj H
                                                          have p199 : 0 ≤ (a2 : Int) := of_decide_eq_true (by first | (with_reducible assumption) | assumption)
                                                          have q199 : a2 < (y181.length : Int) := of_decide_eq_true (by first | (with_reducible assumption) | assumption)
                                                          obtain ⟨ad199, A199_0, c199_0, A199_1, c199_1, e199, hx199_0, hx199_1, hl199_0, hi199_0, hl199_1, hi199_1⟩ := at_T25 (Kd.N_reads' HO_7.out).2.2 a2 p199 q199
                                                          cases e199
                                                          obtain ⟨ce199, hce199, hMe199, hcc199⟩ := Kd.N_get HO_7.out z25 a2 p199 (by first | exact q199 | exact of_decide_eq_true (by first | (with_reducible assumption) | assumption) | (have e_ := (Kd.N_reads' HO_7.out).1; omega))
                                                          obtain ⟨ua199_0, uc199_0, ua199_1, uc199_1, rfl, ul199_0, ge199_0, ul199_1, ge199_1⟩ := k25_openF hMe199
                                                          have hv199_0 := hcc199 0 _ rfl
                                                          rw [Nat.add_zero] at hv199_0
                                                          replace hv199_0 := Option.some.inj (hv199_0.symm.trans hx199_0)
                                                          injection hv199_0 with hva_ hvn_ hvc_
                                                          rw [hva_] at ge199_0
                                                          rw [hvc_] at ul199_0
                                                          have HL199_0 := Aside0.mk (show Kd.V (Kd.int .i64) 3 _ w.heap.size _ _ ((rd_T25 y181 a2).f0) from Kd.V_mk ul199_0 ge199_0)
                                                          clear hva_ hvn_ hvc_ ge199_0 ul199_0
                                                          have hv199_1 := hcc199 1 _ rfl
                                                          rw [add_field _ _ 1 (by omega)] at hv199_1
                                                          replace hv199_1 := Option.some.inj (hv199_1.symm.trans hx199_1)
                                                          injection hv199_1 with hva_ hvn_ hvc_
                                                          rw [hva_] at ge199_1
                                                          rw [hvc_] at ul199_1
                                                          have HL199_1 := Aside0.mk (show Kd.V (Kd.int .i64) 3 _ w.heap.size _ _ ((rd_T25 y181 a2).f1) from Kd.V_mk ul199_1 ge199_1)
                                                          clear hva_ hvn_ hvc_ ge199_1 ul199_1
                                                          clear hcc199 hce199
                                                          have HR199_0 := Aside0.mk hi199_0
                                                          have HC199_0 := Aside0.mk hl199_0
                                                          clear hi199_0 hl199_0
                                                          have HR199_1 := Aside0.mk hi199_1
                                                          have HC199_1 := Aside0.mk hl199_1
                                                          clear hi199_1 hl199_1
                                                          replace p199 := eq_true p199
                                                          replace q199 := eq_true q199
                                                          try go_wp2_with (first | ((with_reducible refine gate_dst (N := 17) rfl ?_); (try (refine gate_guard (by rfl) ?_; dsimp only)); refine box_event ?hg (N := 17) ?hd (cs := #[.slice none 0 0, .slice none 0 0]) (t := 25) ?hr ?_; (case hd => rfl); (case hg => rfl); (case hr => first | (go_simp; done) | (go_simp; rfl)); intro gb200 hg w67 hbox hb; have n0_ := Aside0.mk (Kd.N_below (Kd.N_elderB (by (with_reducible repeat (first | apply Kd.N_alloc | apply Kd.N_drewN | apply Kd.N_drew)); exact HO_7.out) gb200 (Nat.le_of_eq hg.symm)) hb); have n1_ := Aside0.mk (Kd.R_below (by (with_reducible repeat (first | apply Kd.R_alloc | apply Kd.R_drewN | apply Kd.R_drew)); exact HO_191000.out) hb); have n2_ := Aside0.mk (Kd.R_below (by (with_reducible repeat (first | apply Kd.R_alloc | apply Kd.R_drewN | apply Kd.R_drew)); exact HO_191001.out) hb); have n3_ := Aside0.mk (Kd.V_below (Kd.V_elderB (by (with_reducible repeat (first | apply Kd.V_alloc | apply Kd.V_drewN | apply Kd.V_drew)); exact HL199_0.out) gb200 (Nat.le_of_eq hg.symm)) hb); have n4_ := Aside0.mk (Kd.V_below (Kd.V_elderB (by (with_reducible repeat (first | apply Kd.V_alloc | apply Kd.V_drewN | apply Kd.V_drew)); exact HL199_1.out) gb200 (Nat.le_of_eq hg.symm)) hb); have n5_ := Aside0.mk (blk_below (g := gb190) (o := .cells #[.slice Ao36 y184.length co36, .slice Ao35 y187.length co35] 25 (0, 0)) (by (with_reducible repeat (first | refine blk_drewN ?_ _ | refine blk_drew ?_ | refine blk_alloc ?_ _)); exact BK190.out) hb); have n6_ := Aside0.mk (Kd.C_below (by repeat (first | (with_reducible exact HR199_0.out) | (with_reducible refine Kd.C_alloc ?_ _) | (with_reducible refine Kd.C_drewN ?_ _) | (with_reducible refine Kd.C_drew ?_) | exact HR199_0.out)) hb); have n7_ := Aside0.mk (Kd.C_below (by repeat (first | (with_reducible exact HR199_1.out) | (with_reducible refine Kd.C_alloc ?_ _) | (with_reducible refine Kd.C_drewN ?_ _) | (with_reducible refine Kd.C_drew ?_) | exact HR199_1.out)) hb); have n8_ := Aside0.mk (below_step (by repeat (first | (with_reducible first | exact HB.out | apply below_alloc | apply pw_below_drewN | apply below_drew1 | refine below_set ?_ GE190.out) | exact HB.out)) hb); have n9_ := Aside0.mk (hbox); have n10_ := Aside0.mk ((by rw [hg]; exact (below_size (by repeat (first | (with_reducible first | exact HB.out | apply below_alloc | apply pw_below_drewN | apply below_drew1 | refine below_set ?_ GE190.out) | exact HB.out))) : w.heap.size ≤ gb200)); have n11_ := Aside0.mk ((by rw [hg]; exact (below_size (by repeat (first | (with_reducible first | exact HB.out | apply below_alloc | apply pw_below_drewN | apply below_drew1 | refine below_set ?_ GE190.out) | exact HB.out))) : w.heap.size ≤ gb200)); have n12_ := Aside0.mk ((by rw [hg]; exact Nat.ne_of_lt (blk_lt (g := gb190) (o := .cells #[.slice Ao36 y184.length co36, .slice Ao35 y187.length co35] 25 (0, 0)) (by (with_reducible repeat (first | refine blk_drewN ?_ _ | refine blk_drew ?_ | refine blk_alloc ?_ _)); exact BK190.out)) : gb190 ≠ gb200)); have n13_ := Aside0.mk ((by rw [hg]; exact Nat.ne_of_gt (blk_lt (g := gb190) (o := .cells #[.slice Ao36 y184.length co36, .slice Ao35 y187.length co35] 25 (0, 0)) (by (with_reducible repeat (first | refine blk_drewN ?_ _ | refine blk_drew ?_ | refine blk_alloc ?_ _)); exact BK190.out)) : gb200 ≠ gb190)); clear HO_7; clear HO_191000; clear HO_191001; clear HL199_0; clear HL199_1; clear BK190; clear HR199_0; clear HR199_1; clear HB; have HO_7 := n0_; have HO_191000 := n1_; have HO_191001 := n2_; have HL199_0 := n3_; have HL199_1 := n4_; have BK190 := n5_; have HR199_0 := n6_; have HR199_1 := n7_; have HB := n8_; have BK200 := n9_; have GW200 := n10_; have GE200 := n11_; have NB190_200 := n12_; have NB200_190 := n13_; clear n0_ n1_ n2_ n3_ n4_ n5_ n6_ n7_ n8_ n9_ n10_ n11_ n12_ n13_; clear hb hbox hg; have hnb68 := NB200_190.out; have hnc68 := NB190_200.out; have hcz69_0 : w67.cell? ⟨gb200, 0, none⟩ = some (.slice none 0 0) := (blk_cell BK200.out 0).trans rfl; have hcz69_1 : w67.cell? ⟨gb200, 1, none⟩ = some (.slice none 0 0) := (blk_cell BK200.out 1).trans rfl; have hfz69_0 := blk_frozen BK200.out 0; have hfz69_1 := blk_frozen BK200.out 1))
                                                          have n0_ : Aside0 (Kd.N k25 25 ((w67.setCell ⟨gb200, 0, none⟩ (.slice A199_0 ((rd_T25 y181 a2).f0).length c199_0)).setCell ⟨gb200, 1, none⟩ (.slice A199_1 ((rd_T25 y181 a2).f1).length c199_1)) w.heap.size (fun k_ => some k_ ≠ (.slice Ao36 y184.length co36 : Value).ownBlock ∧ some k_ ≠ (.slice Ao35 y187.length co35 : Value).ownBlock ∧ k_ ≠ gb190 ∧ k_ ≠ gb200) (.slice (some ad199) y181.length co39) y181) := ⟨by (with_reducible repeat (first | apply Kd.N_alloc | apply Kd.N_drewN | apply Kd.N_drew)); exact Kd.N_mono (Kd.N_far (p := ⟨gb200, 1, none⟩) (Kd.N_far (p := ⟨gb200, 0, none⟩) (Kd.N_mono HO_7.out (fun k_ hk => (⟨hk, hk.2⟩ : _ ∧ k_ ≠ gb200))) (fun _ hk => hk.2) (.slice A199_0 ((rd_T25 y181 a2).f0).length c199_0)) (fun _ hk => hk.2) (.slice A199_1 ((rd_T25 y181 a2).f1).length c199_1)) (fun _ hk => ⟨hk.1.1.1, ⟨hk.1.1.2.1, ⟨hk.1.1.2.2, hk.1.2⟩⟩⟩)⟩
                                                          have n1_ : Aside0 (Kd.R (Kd.int .i64) 3 ((w67.setCell ⟨gb200, 0, none⟩ (.slice A199_0 ((rd_T25 y181 a2).f0).length c199_0)).setCell ⟨gb200, 1, none⟩ (.slice A199_1 ((rd_T25 y181 a2).f1).length c199_1)) w.heap.size (fun k_ => some k_ ≠ (.slice Ao35 y187.length co35 : Value).ownBlock) (.slice Ao36 y184.length co36) y184) := ⟨by (with_reducible repeat (first | apply Kd.R_alloc | apply Kd.R_drewN | apply Kd.R_drew)); exact Kd.R_mono (Kd.R_far (p := ⟨gb200, 1, none⟩) (Kd.R_far (p := ⟨gb200, 0, none⟩) (Kd.R_types HO_191000.out BK200.out (by decide)) (fun _ hk => hk.2) (.slice A199_0 ((rd_T25 y181 a2).f0).length c199_0)) (fun _ hk => hk.2) (.slice A199_1 ((rd_T25 y181 a2).f1).length c199_1)) (fun _ hk => hk.1)⟩
                                                          have n2_ : Aside0 (Kd.R (Kd.int .i64) 3 ((w67.setCell ⟨gb200, 0, none⟩ (.slice A199_0 ((rd_T25 y181 a2).f0).length c199_0)).setCell ⟨gb200, 1, none⟩ (.slice A199_1 ((rd_T25 y181 a2).f1).length c199_1)) w.heap.size (fun k_ => some k_ ≠ (.slice Ao36 y184.length co36 : Value).ownBlock) (.slice Ao35 y187.length co35) y187) := ⟨by (with_reducible repeat (first | apply Kd.R_alloc | apply Kd.R_drewN | apply Kd.R_drew)); exact Kd.R_mono (Kd.R_far (p := ⟨gb200, 1, none⟩) (Kd.R_far (p := ⟨gb200, 0, none⟩) (Kd.R_types HO_191001.out BK200.out (by decide)) (fun _ hk => hk.2) (.slice A199_0 ((rd_T25 y181 a2).f0).length c199_0)) (fun _ hk => hk.2) (.slice A199_1 ((rd_T25 y181 a2).f1).length c199_1)) (fun _ hk => hk.1)⟩
                                                          have n3_ : Aside0 (Kd.V (Kd.int .i64) 3 ((w67.setCell ⟨gb200, 0, none⟩ (.slice A199_0 ((rd_T25 y181 a2).f0).length c199_0)).setCell ⟨gb200, 1, none⟩ (.slice A199_1 ((rd_T25 y181 a2).f1).length c199_1)) w.heap.size (fun k_ => some k_ ≠ (.slice (some ad199) y181.length co39 : Value).ownBlock ∧ some k_ ≠ (.slice Ao36 y184.length co36 : Value).ownBlock ∧ some k_ ≠ (.slice Ao35 y187.length co35 : Value).ownBlock ∧ k_ ≠ gb190 ∧ k_ ≠ gb200) (.slice A199_0 ((rd_T25 y181 a2).f0).length c199_0) ((rd_T25 y181 a2).f0)) := ⟨by (with_reducible repeat (first | apply Kd.V_alloc | apply Kd.V_drewN | apply Kd.V_drew)); exact Kd.V_mono (Kd.V_far (p := ⟨gb200, 1, none⟩) (Kd.V_far (p := ⟨gb200, 0, none⟩) (Kd.V_mono HL199_0.out (fun k_ hk => (⟨hk, hk.2⟩ : _ ∧ k_ ≠ gb200))) (fun _ hk => hk.2) (.slice A199_0 ((rd_T25 y181 a2).f0).length c199_0)) (fun _ hk => hk.2) (.slice A199_1 ((rd_T25 y181 a2).f1).length c199_1)) (fun _ hk => ⟨hk.1.1.2, ⟨hk.1.1.1.1, ⟨hk.1.1.1.2.1, ⟨hk.1.1.1.2.2, hk.1.2⟩⟩⟩⟩)⟩
                                                          have n4_ : Aside0 (Kd.V (Kd.int .i64) 3 ((w67.setCell ⟨gb200, 0, none⟩ (.slice A199_0 ((rd_T25 y181 a2).f0).length c199_0)).setCell ⟨gb200, 1, none⟩ (.slice A199_1 ((rd_T25 y181 a2).f1).length c199_1)) w.heap.size (fun k_ => some k_ ≠ (.slice (some ad199) y181.length co39 : Value).ownBlock ∧ some k_ ≠ (.slice Ao36 y184.length co36 : Value).ownBlock ∧ some k_ ≠ (.slice Ao35 y187.length co35 : Value).ownBlock ∧ k_ ≠ gb190 ∧ k_ ≠ gb200) (.slice A199_1 ((rd_T25 y181 a2).f1).length c199_1) ((rd_T25 y181 a2).f1)) := ⟨by (with_reducible repeat (first | apply Kd.V_alloc | apply Kd.V_drewN | apply Kd.V_drew)); exact Kd.V_mono (Kd.V_far (p := ⟨gb200, 1, none⟩) (Kd.V_far (p := ⟨gb200, 0, none⟩) (Kd.V_mono HL199_1.out (fun k_ hk => (⟨hk, hk.2⟩ : _ ∧ k_ ≠ gb200))) (fun _ hk => hk.2) (.slice A199_0 ((rd_T25 y181 a2).f0).length c199_0)) (fun _ hk => hk.2) (.slice A199_1 ((rd_T25 y181 a2).f1).length c199_1)) (fun _ hk => ⟨hk.1.1.2, ⟨hk.1.1.1.1, ⟨hk.1.1.1.2.1, ⟨hk.1.1.1.2.2, hk.1.2⟩⟩⟩⟩)⟩
                                                          have n5_ : Aside0 (((w67.setCell ⟨gb200, 0, none⟩ (.slice A199_0 ((rd_T25 y181 a2).f0).length c199_0)).setCell ⟨gb200, 1, none⟩ (.slice A199_1 ((rd_T25 y181 a2).f1).length c199_1)).heap[gb190]? = some (.cells #[.slice Ao36 y184.length co36, .slice Ao35 y187.length co35] 25 (0, 0))) := ⟨by (with_reducible repeat (first | refine blk_drewN ?_ _ | refine blk_drew ?_ | refine blk_alloc ?_ _)); refine blk_far ?_ NB190_200.out _; (with_reducible repeat (first | refine blk_drewN ?_ _ | refine blk_drew ?_ | refine blk_alloc ?_ _)); refine blk_far ?_ NB190_200.out _; (with_reducible repeat (first | refine blk_drewN ?_ _ | refine blk_drew ?_ | refine blk_alloc ?_ _)); exact BK190.out⟩
                                                          have n6_ : Aside0 (((w67.setCell ⟨gb200, 0, none⟩ (.slice A199_0 ((rd_T25 y181 a2).f0).length c199_0)).setCell ⟨gb200, 1, none⟩ (.slice A199_1 ((rd_T25 y181 a2).f1).length c199_1)).heap[gb200]? = some (.cells #[.slice A199_0 ((rd_T25 y181 a2).f0).length c199_0, .slice A199_1 ((rd_T25 y181 a2).f1).length c199_1] 25 (0, 0))) := ⟨by (with_reducible repeat (first | refine blk_drewN ?_ _ | refine blk_drew ?_ | refine blk_alloc ?_ _)); refine blk_put (cs := #[.slice A199_0 ((rd_T25 y181 a2).f0).length c199_0, .slice none 0 0]) ?_ 1 _ rfl; (with_reducible repeat (first | refine blk_drewN ?_ _ | refine blk_drew ?_ | refine blk_alloc ?_ _)); refine blk_put (cs := #[.slice none 0 0, .slice none 0 0]) ?_ 0 _ rfl; (with_reducible repeat (first | refine blk_drewN ?_ _ | refine blk_drew ?_ | refine blk_alloc ?_ _)); exact BK200.out⟩
                                                          have n7_ : Aside0 (Below w.heap.size w ((w67.setCell ⟨gb200, 0, none⟩ (.slice A199_0 ((rd_T25 y181 a2).f0).length c199_0)).setCell ⟨gb200, 1, none⟩ (.slice A199_1 ((rd_T25 y181 a2).f1).length c199_1))) := ⟨by repeat (first | (with_reducible first | exact HB.out | apply below_alloc | apply pw_below_drewN | apply below_drew1 | refine below_set ?_ GE190.out | refine below_set ?_ GE200.out) | exact HB.out)⟩
                                                          (try clear HO_7)
                                                          (try clear HO_191000)
                                                          (try clear HO_191001)
                                                          (try clear HL199_0)
                                                          (try clear HL199_1)
                                                          (try clear BK190)
                                                          (try clear BK200)
                                                          (try clear HB)
                                                          generalize ((w67.setCell ⟨gb200, 0, none⟩ (.slice A199_0 ((rd_T25 y181 a2).f0).length c199_0)).setCell ⟨gb200, 1, none⟩ (.slice A199_1 ((rd_T25 y181 a2).f1).length c199_1)) = w70 at n0_ n1_ n2_ n3_ n4_ n5_ n6_ n7_ ⊢
                                                          have HO_7 := n0_
                                                          have HO_191000 := n1_
                                                          have HO_191001 := n2_
                                                          have HL199_0 := n3_
                                                          have HL199_1 := n4_
                                                          have BK190 := n5_
                                                          have BK200 := n6_
                                                          have HB := n7_
                                                          clear n0_ n1_ n2_ n3_ n4_ n5_ n6_ n7_
                                                          have n0_ := Aside0.mk (Kd.N_drew HO_7.out)
                                                          have n1_ := Aside0.mk (Kd.R_drew HO_191000.out)
                                                          have n2_ := Aside0.mk (Kd.R_drew HO_191001.out)
                                                          have n3_ := Aside0.mk (Kd.V_drew HL199_0.out)
                                                          have n4_ := Aside0.mk (Kd.V_drew HL199_1.out)
                                                          have n5_ := Aside0.mk (blk_drew BK190.out)
                                                          have n6_ := Aside0.mk (blk_drew BK200.out)
                                                          have n7_ := Aside0.mk (below_drew1 HB.out)
                                                          clear HO_7
                                                          clear HO_191000
                                                          clear HO_191001
                                                          clear HL199_0
                                                          clear HL199_1
                                                          clear BK190
                                                          clear BK200
                                                          clear HB
                                                          have HO_7 := n0_
                                                          have HO_191000 := n1_
                                                          have HO_191001 := n2_
                                                          have HL199_0 := n3_
                                                          have HL199_1 := n4_
                                                          have BK190 := n5_
                                                          have BK200 := n6_
                                                          have HB := n7_
                                                          clear n0_ n1_ n2_ n3_ n4_ n5_ n6_ n7_
                                                          have q72 : (a2 : Int) ≤ ((y181.length : Int) : Int) := of_decide_eq_true (by first | (with_reducible assumption) | assumption)
                                                          obtain ⟨i072, hi072, _, hsz72, _⟩ := info_parts info25
                                                          have hroom72 : y181.length ≤ co39 := (Kd.N_reads' HO_7.out).2.1
                                                          have hC72 : Kd.F k25 _ _ (some ad199) y181.length y181 := (Kd.V_at (base := w.heap.size) (Kd.N_V HO_7.out)).2.2
                                                          have hcut72 := cut_to (P := Try.prog) 23 25 .i64 Try.underlying23 hi072 (some ad199) y181.length co39 a2 (of_decide_eq_true (by first | (with_reducible assumption) | assumption)) q72 hroom72
                                                          have hr72 := Kd.F_take (m := (a2 : Int).toNat) hC72 (by omega)
                                                          have hy72 : y204.length = (a2 : Int).toNat := (by rw [Ny204.out, List.length_take]; omega)
                                                          rw [← Ny204.out] at hr72
                                                          rw [← hy72] at hcut72
                                                          have HO208 := Aside0.mk (show Kd.V k25 25 _ w.heap.size _ (.slice (some ad199) y204.length co39) y204 from Kd.V_mk (by omega) hr72)
                                                          have HC208 := Aside0.mk (show y204.length ≤ co39 from by omega)
                                                          clear hr72 hC72 hroom72 hi072 hsz72
                                                          have KY72 := Aside0.mk hy72
                                                          clear hy72
                                                          replace q72 := eq_true q72
                                                          have q73 : ((ji54) : Int) ≤ ((y181.length : Int) : Int) := of_decide_eq_true (by first | (with_reducible assumption) | assumption)
                                                          obtain ⟨i073, hi073, _, hsz73, _⟩ := info_parts info25
                                                          have hroom73 : y181.length ≤ co39 := (Kd.N_reads' HO_7.out).2.1
                                                          have hC73 : Kd.F k25 _ _ (some ad199) y181.length y181 := (Kd.V_at (base := w.heap.size) (Kd.N_V HO_7.out)).2.2
                                                          have q073 : (0 : Int) ≤ ((ji54) : Int) := of_decide_eq_true (by first | (with_reducible assumption) | assumption)
                                                          have hcut73 := cut_from (P := Try.prog) 23 25 .i64 Try.underlying23 hi073 2 hsz73 (some ad199) y181.length co39 (ji54) q073 q73
                                                          have hr73 := Kd.F_cut (m := ((ji54) : Int).toNat) (c := co39) hC73 (by omega) hroom73
                                                          obtain ⟨A73, hA73⟩ : ∃ A1, A1 = (if co39 = ((ji54) : Int).toNat then (some ad199) else ((some ad199) : Option Addr).map (·.add (((ji54) : Int).toNat * 2))) := ⟨_, rfl⟩
                                                          obtain ⟨c73, hc73⟩ : ∃ c1, c1 = co39 - ((ji54) : Int).toNat := ⟨_, rfl⟩
                                                          have hy73 : y212.length = y181.length - ((ji54) : Int).toNat := (by rw [Ny212.out, List.length_drop] <;> omega)
                                                          rw [show (y181).drop ((ji54) : Int).toNat = y212 from Ny212.out.symm] at hr73
                                                          replace hr73 : Kd.F k25 _ _ A73 y212.length y212 := (by rw [hA73]; exact hr73)
                                                          rw [← hy73, ← hA73, ← hc73] at hcut73
                                                          have HO216 := Aside0.mk (show Kd.V k25 25 _ w.heap.size _ (.slice A73 y212.length c73) y212 from Kd.V_mk (by rw [hy73, hc73]; exact Nat.sub_le_sub_right hroom73 _) hr73)
                                                          have HC216 := Aside0.mk (show y212.length ≤ c73 from by rw [hy73, hc73]; exact Nat.sub_le_sub_right hroom73 _)
                                                          clear hr73 hC73 hroom73 hi073 hsz73 hc73
                                                          have KY73 := Aside0.mk hy73
                                                          have KA73 := Aside0.mk hA73
                                                          clear hy73 hA73
                                                          replace q73 := eq_true q73
                                                          refine start_ (n := 11) (S := fun w' => True) (ds := []) #[false, false, false, false, false, false, false, false, false, false, false] (by kernel_rfl) rfl rfl trivial (fun hHeld => ?_); refine with_tabW dossierlaw9_GapsParts.tab21 dossierlaw9_GapsParts.bits21 (fun HT_ HW_ => ?_)
                                                          generalize w70.drew = w71 at HO_7 HO_191000 HO_191001 HL199_0 HL199_1 BK190 BK200 HB HO208 HO216 hHeld ⊢
                                                          refine pure_ (i := 1) (N := some 104) (v := ?_) (a' := ?_) #[false, true, false, false, false, false, false, false, false, false, false] rfl rfl (any_of HT_.out (by kernel_rfl)) (fun _ _ _ h => h) (Or.inl ⟨by rfl, ?_⟩) ?_ ?_
                                                          rotate_left
                                                          · intro w'
                                                            go_simp
                                                            with_reducible rfl
                                                          rotate_left
                                                          · simp only [Act.put, List.setIfInBounds_toArray, List.set_cons_zero, List.set_cons_succ, i64_w, i32_w]
                                                            rfl
                                                          refine pure_ (i := 2) (N := some 105) (v := ?_) (a' := ?_) #[false, true, true, false, false, false, false, false, false, false, false] rfl rfl (any_of HT_.out (by kernel_rfl)) (fun _ _ _ h => h) (Or.inl ⟨by rfl, ?_⟩) ?_ ?_
                                                          rotate_left
                                                          · intro w'
                                                            go_simp
                                                            with_reducible rfl
                                                          rotate_left
                                                          · simp only [Act.put, List.setIfInBounds_toArray, List.set_cons_zero, List.set_cons_succ, i64_w, i32_w]
                                                            rfl
                                                          refine pure_ (i := 3) (N := some 106) (v := ?_) (a' := ?_) #[false, true, true, true, false, false, false, false, false, false, false] rfl rfl (any_of HT_.out (by kernel_rfl)) (fun _ _ _ h => h) (Or.inl ⟨by rfl, ?_⟩) ?_ ?_
                                                          rotate_left
                                                          · intro w'
                                                            go_simp
                                                            with_reducible rfl
                                                          rotate_left
                                                          · simp only [Act.put, List.setIfInBounds_toArray, List.set_cons_zero, List.set_cons_succ, i64_w, i32_w]
                                                            rfl
                                                          refine pure_ (i := 5) (N := some 108) (v := ?_) (a' := ?_) #[false, true, true, true, false, true, false, false, false, false, false] rfl rfl (any_of HT_.out (by kernel_rfl)) (fun _ _ _ h => h) (Or.inl ⟨by rfl, ?_⟩) ?_ ?_
                                                          rotate_left
                                                          · intro w'
                                                            go_simp
                                                            with_reducible rfl
                                                          rotate_left
                                                          · simp only [Act.put, List.setIfInBounds_toArray, List.set_cons_zero, List.set_cons_succ, i64_w, i32_w]
                                                            rfl
                                                          refine pure_ (i := 6) (N := some 109) (v := ?_) (a' := ?_) #[false, true, true, true, false, true, true, false, false, false, false] rfl rfl (any_of HT_.out (by kernel_rfl)) (fun _ _ _ h => h) (Or.inl ⟨by rfl, ?_⟩) ?_ ?_
                                                          rotate_left
                                                          · intro w'
                                                            go_simp
                                                            with_reducible rfl
                                                          rotate_left
                                                          · simp only [Act.put, List.setIfInBounds_toArray, List.set_cons_zero, List.set_cons_succ, i64_w, i32_w]
                                                            rfl
                                                          refine pure_ (i := 7) (N := some 110) (v := ?_) (a' := ?_) #[false, true, true, true, false, true, true, true, false, false, false] rfl rfl (any_of HT_.out (by kernel_rfl)) (fun _ _ _ h => h) (Or.inl ⟨by rfl, ?_⟩) ?_ ?_
                                                          rotate_left
                                                          · intro w'
                                                            go_simp
                                                            with_reducible rfl
                                                          rotate_left
                                                          · simp only [Act.put, List.setIfInBounds_toArray, List.set_cons_zero, List.set_cons_succ, i64_w, i32_w]
                                                            rfl
                                                          refine pure_ (i := 8) (N := some 111) (v := ?_) (a' := ?_) #[false, true, true, true, false, true, true, true, true, false, false] rfl rfl (any_of HT_.out (by kernel_rfl)) (fun _ _ _ h => h) (Or.inl ⟨by rfl, ?_⟩) ?_ ?_
                                                          rotate_left
                                                          · intro w'
                                                            go_simp
                                                            with_reducible rfl
                                                          rotate_left
                                                          · simp only [Act.put, List.setIfInBounds_toArray, List.set_cons_zero, List.set_cons_succ, i64_w, i32_w]
                                                            rfl
                                                          refine one_ (i := 0) (N := some 103) #[true, true, true, true, false, true, true, true, true, false, false] rfl rfl (one_of HT_.out (by kernel_rfl)) (by decide) (fun K hK => ?_)
                                                          refine Kd.N_lit_step k25 _ 25 ?hg (N' := 103) ?hd (xs := ([] : List (S25))) (inner := []) (ok := (fun k_ => some k_ ≠ (.slice (some ad199) y181.length co39 : Value).ownBlock ∧ some k_ ≠ (.slice Ao36 y184.length co36 : Value).ownBlock ∧ some k_ ≠ (.slice Ao35 y187.length co35 : Value).ownBlock ∧ k_ ≠ gb190 ∧ k_ ≠ gb200)) (okp := (fun k_ => some k_ ≠ (.slice (some ad199) y181.length co39 : Value).ownBlock ∧ some k_ ≠ (.slice Ao36 y184.length co36 : Value).ownBlock ∧ some k_ ≠ (.slice Ao35 y187.length co35 : Value).ownBlock ∧ k_ ≠ gb190 ∧ k_ ≠ gb200)) ?hr ?hp (fun _ hk => hk) ((show ∀ k_, w71.heap.size ≤ k_ → (fun k_ => some k_ ≠ (.slice (some ad199) y181.length co39 : Value).ownBlock ∧ some k_ ≠ (.slice Ao36 y184.length co36 : Value).ownBlock ∧ some k_ ≠ (.slice Ao35 y187.length co35 : Value).ownBlock ∧ k_ ≠ gb190 ∧ k_ ≠ gb200) k_ from fun k_ hk => ⟨Kd.fresh' (Kd.N_lt (by (with_reducible repeat (first | apply Kd.N_alloc | apply Kd.N_drewN | apply Kd.N_drew)); exact HO_7.out)) k_ hk, Kd.fresh' (Kd.R_lt (by (with_reducible repeat (first | apply Kd.R_alloc | apply Kd.R_drewN | apply Kd.R_drew)); exact HO_191000.out)) k_ hk, Kd.fresh' (Kd.R_lt (by (with_reducible repeat (first | apply Kd.R_alloc | apply Kd.R_drewN | apply Kd.R_drew)); exact HO_191001.out)) k_ hk, Kd.freshB (g := gb190) (o := .cells #[.slice Ao36 y184.length co36, .slice Ao35 y187.length co35] 25 (0, 0)) (by (with_reducible repeat (first | refine blk_drewN ?_ _ | refine blk_drew ?_ | refine blk_alloc ?_ _)); exact BK190.out) k_ hk, Kd.freshB (g := gb200) (o := .cells #[.slice A199_0 ((rd_T25 y181 a2).f0).length c199_0, .slice A199_1 ((rd_T25 y181 a2).f1).length c199_1] 25 (0, 0)) (by (with_reducible repeat (first | refine blk_drewN ?_ _ | refine blk_drew ?_ | refine blk_alloc ?_ _)); exact BK200.out) k_ hk⟩) _ (Nat.le_refl _)) (Below.refl _ _) (Nat.le_refl _) (by simp) ?_; (case hd => rfl); (case hg => rfl); (case hr => first | (go_simp; done) | (go_simp; rfl)); (case hp => exact (Reps.none _ _))
                                                          intro v202 w74 ho75 hb hg_ hnew_
                                                          clear hg_ hnew_
                                                          (first | rw [← Ny201.out] at ho75 | (simp only [Int.reduceToNat] at ho75; rw [← Ny201.out] at ho75))
                                                          have n0_ := Aside0.mk (Kd.N_elder' (by (with_reducible repeat (first | apply Kd.N_alloc | apply Kd.N_drewN | apply Kd.N_drew)); exact HO_7.out) (Kd.N_base ho75) hb)
                                                          have n1_ := Aside0.mk (Kd.R_below (by (with_reducible repeat (first | apply Kd.R_alloc | apply Kd.R_drewN | apply Kd.R_drew)); exact HO_191000.out) hb)
                                                          have n2_ := Aside0.mk (Kd.R_below (by (with_reducible repeat (first | apply Kd.R_alloc | apply Kd.R_drewN | apply Kd.R_drew)); exact HO_191001.out) hb)
                                                          have n3_ := Aside0.mk (Kd.V_elder' (by (with_reducible repeat (first | apply Kd.V_alloc | apply Kd.V_drewN | apply Kd.V_drew)); exact HL199_0.out) (Kd.N_base ho75) hb)
                                                          have n4_ := Aside0.mk (Kd.V_elder' (by (with_reducible repeat (first | apply Kd.V_alloc | apply Kd.V_drewN | apply Kd.V_drew)); exact HL199_1.out) (Kd.N_base ho75) hb)
                                                          have n5_ := Aside0.mk (Kd.V_elder' (by (with_reducible repeat (first | apply Kd.V_alloc | apply Kd.V_drewN | apply Kd.V_drew)); exact HO208.out) (Kd.N_base ho75) hb)
                                                          have n6_ := Aside0.mk (Kd.V_elder' (by (with_reducible repeat (first | apply Kd.V_alloc | apply Kd.V_drewN | apply Kd.V_drew)); exact HO216.out) (Kd.N_base ho75) hb)
                                                          have n7_ := Aside0.mk (Kd.N_lower ho75 (below_size (by repeat (first | (with_reducible first | exact HB.out | apply below_alloc | apply pw_below_drewN | apply below_drew1 | refine below_set ?_ GE190.out | refine below_set ?_ GE200.out) | exact HB.out))))
                                                          have n8_ := Aside0.mk (blk_below (g := gb190) (o := .cells #[.slice Ao36 y184.length co36, .slice Ao35 y187.length co35] 25 (0, 0)) (by (with_reducible repeat (first | refine blk_drewN ?_ _ | refine blk_drew ?_ | refine blk_alloc ?_ _)); exact BK190.out) hb)
                                                          have n9_ := Aside0.mk (blk_below (g := gb200) (o := .cells #[.slice A199_0 ((rd_T25 y181 a2).f0).length c199_0, .slice A199_1 ((rd_T25 y181 a2).f1).length c199_1] 25 (0, 0)) (by (with_reducible repeat (first | refine blk_drewN ?_ _ | refine blk_drew ?_ | refine blk_alloc ?_ _)); exact BK200.out) hb)
                                                          have n10_ := Aside0.mk (below_step (by repeat (first | (with_reducible first | exact HB.out | apply below_alloc | apply pw_below_drewN | apply below_drew1 | refine below_set ?_ GE190.out | refine below_set ?_ GE200.out) | exact HB.out)) hb)
                                                          clear HO_7
                                                          clear HO_191000
                                                          clear HO_191001
                                                          clear HL199_0
                                                          clear HL199_1
                                                          clear HO208
                                                          clear HO216
                                                          clear BK190
                                                          clear BK200
                                                          clear HB
                                                          have HO_7 := n0_
                                                          have HO_191000 := n1_
                                                          have HO_191001 := n2_
                                                          have HL199_0 := n3_
                                                          have HL199_1 := n4_
                                                          have HO208 := n5_
                                                          have HO216 := n6_
                                                          have HO203 := n7_
                                                          have BK190 := n8_
                                                          have BK200 := n9_
                                                          have HB := n10_
                                                          clear n0_ n1_ n2_ n3_ n4_ n5_ n6_ n7_ n8_ n9_ n10_
                                                          clear hb ho75
                                                          refine hK.out _ _ trivial (fun hHeld => ?_)
                                                          clear hK K
                                                          refine norm_ (a' := ?_) ?_ ?_
                                                          rotate_left
                                                          · show Act.put _ (some 103) _ = _
                                                            simp only [Act.put, List.setIfInBounds_toArray, List.set_cons_zero, List.set_cons_succ, i64_w, i32_w]
                                                            rfl
                                                          refine one_ (i := 4) (N := some 107) #[true, true, true, true, true, true, true, true, true, false, false] rfl rfl (one_of HT_.out (by kernel_rfl)) (by decide) (fun K hK => ?_)
                                                          refine Kd.N_append_rows_step k25 (w0 := w) w.heap.size (by rfl) (.tmp 103) (.tmp 106) 23 25 (.agg #[(.slice none 0 0), (.slice none 0 0)]) 48 rfl Try.underlying23 info25 rfl (by decide) (by omega) v202 y201 y204 _ _ _ (fun k_ => some k_ ≠ (.slice Ao36 y184.length co36 : Value).ownBlock ∧ some k_ ≠ (.slice Ao35 y187.length co35 : Value).ownBlock ∧ k_ ≠ gb190 ∧ k_ ≠ gb200) (fun k_ => ((fun k_ => some k_ ≠ (.slice Ao36 y184.length co36 : Value).ownBlock ∧ some k_ ≠ (.slice Ao35 y187.length co35 : Value).ownBlock ∧ k_ ≠ gb190 ∧ k_ ≠ gb200)) k_ ∧ some k_ ≠ (v202 : Value).ownBlock) rfl rfl ?aO ?aR (fun _ hk => hk) ?aF ?aB ?aS ?aL ?_
                                                          (case aR => exact (by skip; exact Kd.V_F (Kd.V_mono (ok' := (fun k_ => ((fun k_ => some k_ ≠ (.slice Ao36 y184.length co36 : Value).ownBlock ∧ some k_ ≠ (.slice Ao35 y187.length co35 : Value).ownBlock ∧ k_ ≠ gb190 ∧ k_ ≠ gb200)) k_ ∧ some k_ ≠ (v202 : Value).ownBlock)) (HO208.out) (fun k_ hk => ⟨⟨hk.1.1, ⟨hk.1.2.1, ⟨hk.1.2.2.1, hk.1.2.2.2⟩⟩⟩, hk.2⟩))))
                                                          (case aB => exact (by repeat (first | (with_reducible first | exact HB.out | apply below_alloc | apply pw_below_drewN | apply below_drew1 | refine below_set ?_ GE190.out | refine below_set ?_ GE200.out) | exact HB.out)))
                                                          (case aF => exact (fun k_ hk => ⟨Kd.fresh' (Kd.R_lt (by (with_reducible repeat (first | apply Kd.R_alloc | apply Kd.R_drewN | apply Kd.R_drew)); exact HO_191000.out)) k_ hk, Kd.fresh' (Kd.R_lt (by (with_reducible repeat (first | apply Kd.R_alloc | apply Kd.R_drewN | apply Kd.R_drew)); exact HO_191001.out)) k_ hk, Kd.freshB (g := gb190) (o := .cells #[.slice Ao36 y184.length co36, .slice Ao35 y187.length co35] 25 (0, 0)) (by (with_reducible repeat (first | refine blk_drewN ?_ _ | refine blk_drew ?_ | refine blk_alloc ?_ _)); exact BK190.out) k_ hk, Kd.freshB (g := gb200) (o := .cells #[.slice A199_0 ((rd_T25 y181 a2).f0).length c199_0, .slice A199_1 ((rd_T25 y181 a2).f1).length c199_1] 25 (0, 0)) (by (with_reducible repeat (first | refine blk_drewN ?_ _ | refine blk_drew ?_ | refine blk_alloc ?_ _)); exact BK200.out) k_ hk⟩))
                                                          (case aO => exact (by (with_reducible repeat (first | apply Kd.N_alloc | apply Kd.N_drewN | apply Kd.N_drew)); exact Kd.N_mono HO203.out (fun _ hk => ⟨hk.2.1, ⟨hk.2.2.1, ⟨hk.2.2.2.1, hk.2.2.2.2⟩⟩⟩)))
                                                          (case aS => exact (below_size (by repeat (first | (with_reducible first | exact HB.out | apply below_alloc | apply pw_below_drewN | apply below_drew1 | refine below_set ?_ GE190.out | refine below_set ?_ GE200.out) | exact HB.out))))
                                                          (case aL => have := LMc53.out; omega)
                                                          intro v210 w76 ho hb hg hat
                                                          rw [← Ny209.out] at ho
                                                          have n0_ := Aside0.mk (Kd.N_afterv (ok := (fun k_ => some k_ ≠ (.slice Ao36 y184.length co36 : Value).ownBlock ∧ some k_ ≠ (.slice Ao35 y187.length co35 : Value).ownBlock ∧ k_ ≠ gb190 ∧ k_ ≠ gb200)) (by (with_reducible repeat (first | apply Kd.N_alloc | apply Kd.N_drewN | apply Kd.N_drew)); exact HO_7.out) hg hat)
                                                          have n1_ := Aside0.mk (Kd.R_over' (by (with_reducible repeat (first | apply Kd.R_alloc | apply Kd.R_drewN | apply Kd.R_drew)); exact HO_191000.out) (Kd.N_typed (by (with_reducible repeat (first | apply Kd.N_alloc | apply Kd.N_drewN | apply Kd.N_drew)); exact HO203.out)) (by decide) hg)
                                                          have n2_ := Aside0.mk (Kd.R_over' (by (with_reducible repeat (first | apply Kd.R_alloc | apply Kd.R_drewN | apply Kd.R_drew)); exact HO_191001.out) (Kd.N_typed (by (with_reducible repeat (first | apply Kd.N_alloc | apply Kd.N_drewN | apply Kd.N_drew)); exact HO203.out)) (by decide) hg)
                                                          have n3_ := Aside0.mk (blk_grown (g := gb190) (o := .cells #[.slice Ao36 y184.length co36, .slice Ao35 y187.length co35] 25 (0, 0)) (by (with_reducible repeat (first | refine blk_drewN ?_ _ | refine blk_drew ?_ | refine blk_alloc ?_ _)); exact BK190.out) hg (Kd.N_away HO203.out (fun _ hk => hk.2.2.2.1)))
                                                          have n4_ := Aside0.mk (Kd.V_afterv (ok := (fun k_ => some k_ ≠ (.slice (some ad199) y181.length co39 : Value).ownBlock ∧ some k_ ≠ (.slice Ao36 y184.length co36 : Value).ownBlock ∧ some k_ ≠ (.slice Ao35 y187.length co35 : Value).ownBlock ∧ k_ ≠ gb190 ∧ k_ ≠ gb200)) (by (with_reducible repeat (first | apply Kd.V_alloc | apply Kd.V_drewN | apply Kd.V_drew)); exact HL199_0.out) hg hat)
                                                          have n5_ := Aside0.mk (Kd.V_afterv (ok := (fun k_ => some k_ ≠ (.slice (some ad199) y181.length co39 : Value).ownBlock ∧ some k_ ≠ (.slice Ao36 y184.length co36 : Value).ownBlock ∧ some k_ ≠ (.slice Ao35 y187.length co35 : Value).ownBlock ∧ k_ ≠ gb190 ∧ k_ ≠ gb200)) (by (with_reducible repeat (first | apply Kd.V_alloc | apply Kd.V_drewN | apply Kd.V_drew)); exact HL199_1.out) hg hat)
                                                          have n6_ := Aside0.mk (blk_grown (g := gb200) (o := .cells #[.slice A199_0 ((rd_T25 y181 a2).f0).length c199_0, .slice A199_1 ((rd_T25 y181 a2).f1).length c199_1] 25 (0, 0)) (by (with_reducible repeat (first | refine blk_drewN ?_ _ | refine blk_drew ?_ | refine blk_alloc ?_ _)); exact BK200.out) hg (Kd.N_away HO203.out (fun _ hk => hk.2.2.2.2)))
                                                          have n7_ := Aside0.mk (Kd.V_afterv (ok := (fun k_ => some k_ ≠ (.slice Ao36 y184.length co36 : Value).ownBlock ∧ some k_ ≠ (.slice Ao35 y187.length co35 : Value).ownBlock ∧ k_ ≠ gb190 ∧ k_ ≠ gb200)) (by (with_reducible repeat (first | apply Kd.V_alloc | apply Kd.V_drewN | apply Kd.V_drew)); exact HO208.out) hg hat)
                                                          have n8_ := Aside0.mk (Kd.V_afterv (ok := (fun k_ => some k_ ≠ (.slice Ao36 y184.length co36 : Value).ownBlock ∧ some k_ ≠ (.slice Ao35 y187.length co35 : Value).ownBlock ∧ k_ ≠ gb190 ∧ k_ ≠ gb200)) (by (with_reducible repeat (first | apply Kd.V_alloc | apply Kd.V_drewN | apply Kd.V_drew)); exact HO216.out) hg hat)
                                                          have n9_ := Aside0.mk (hb)
                                                          have n10_ := Aside0.mk (ho)
                                                          clear HO_7
                                                          clear HO_191000
                                                          clear HO_191001
                                                          clear BK190
                                                          clear HL199_0
                                                          clear HL199_1
                                                          clear BK200
                                                          clear HO208
                                                          clear HO216
                                                          clear HB
                                                          clear HO203
                                                          have HO_7 := n0_
                                                          have HO_191000 := n1_
                                                          have HO_191001 := n2_
                                                          have BK190 := n3_
                                                          have HL199_0 := n4_
                                                          have HL199_1 := n5_
                                                          have BK200 := n6_
                                                          have HO208 := n7_
                                                          have HO216 := n8_
                                                          have HB := n9_
                                                          have HO211 := n10_
                                                          clear n0_ n1_ n2_ n3_ n4_ n5_ n6_ n7_ n8_ n9_ n10_
                                                          clear ho hb hg hat
                                                          refine hK.out _ _ trivial (fun hHeld => ?_)
                                                          clear hK K
                                                          refine norm_ (a' := ?_) ?_ ?_
                                                          rotate_left
                                                          · show Act.put _ (some 107) _ = _
                                                            simp only [Act.put, List.setIfInBounds_toArray, List.set_cons_zero, List.set_cons_succ, i64_w, i32_w]
                                                            rfl
                                                          refine one_ (i := 9) (N := some 112) #[true, true, true, true, true, true, true, true, true, true, false] rfl rfl (one_of HT_.out (by kernel_rfl)) (by decide) (fun K hK => ?_)
                                                          refine Kd.N_append_rows_step k25 (w0 := w) w.heap.size (by rfl) (.tmp 107) (.tmp 111) 23 25 (.agg #[(.slice none 0 0), (.slice none 0 0)]) 48 rfl Try.underlying23 info25 rfl (by decide) (by omega) v210 y209 y212 _ _ _ (fun k_ => some k_ ≠ (.slice Ao36 y184.length co36 : Value).ownBlock ∧ some k_ ≠ (.slice Ao35 y187.length co35 : Value).ownBlock ∧ k_ ≠ gb190 ∧ k_ ≠ gb200) (fun k_ => ((fun k_ => some k_ ≠ (.slice Ao36 y184.length co36 : Value).ownBlock ∧ some k_ ≠ (.slice Ao35 y187.length co35 : Value).ownBlock ∧ k_ ≠ gb190 ∧ k_ ≠ gb200)) k_ ∧ some k_ ≠ (v210 : Value).ownBlock) rfl rfl ?aO ?aR (fun _ hk => hk) ?aF ?aB ?aS ?aL ?_
                                                          (case aR => exact (by skip; exact Kd.V_F (Kd.V_mono (ok' := (fun k_ => ((fun k_ => some k_ ≠ (.slice Ao36 y184.length co36 : Value).ownBlock ∧ some k_ ≠ (.slice Ao35 y187.length co35 : Value).ownBlock ∧ k_ ≠ gb190 ∧ k_ ≠ gb200)) k_ ∧ some k_ ≠ (v210 : Value).ownBlock)) (HO216.out) (fun k_ hk => ⟨⟨hk.1.1, ⟨hk.1.2.1, ⟨hk.1.2.2.1, hk.1.2.2.2⟩⟩⟩, hk.2⟩))))
                                                          (case aB => exact (by repeat (first | (with_reducible first | exact HB.out | apply below_alloc | apply pw_below_drewN | apply below_drew1 | refine below_set ?_ GE190.out | refine below_set ?_ GE200.out) | exact HB.out)))
                                                          (case aF => exact (fun k_ hk => ⟨Kd.fresh' (Kd.R_lt (by (with_reducible repeat (first | apply Kd.R_alloc | apply Kd.R_drewN | apply Kd.R_drew)); exact HO_191000.out)) k_ hk, Kd.fresh' (Kd.R_lt (by (with_reducible repeat (first | apply Kd.R_alloc | apply Kd.R_drewN | apply Kd.R_drew)); exact HO_191001.out)) k_ hk, Kd.freshB (g := gb190) (o := .cells #[.slice Ao36 y184.length co36, .slice Ao35 y187.length co35] 25 (0, 0)) (by (with_reducible repeat (first | refine blk_drewN ?_ _ | refine blk_drew ?_ | refine blk_alloc ?_ _)); exact BK190.out) k_ hk, Kd.freshB (g := gb200) (o := .cells #[.slice A199_0 ((rd_T25 y181 a2).f0).length c199_0, .slice A199_1 ((rd_T25 y181 a2).f1).length c199_1] 25 (0, 0)) (by (with_reducible repeat (first | refine blk_drewN ?_ _ | refine blk_drew ?_ | refine blk_alloc ?_ _)); exact BK200.out) k_ hk⟩))
                                                          (case aO => exact (by (with_reducible repeat (first | apply Kd.N_alloc | apply Kd.N_drewN | apply Kd.N_drew)); exact HO211.out))
                                                          (case aS => exact (below_size (by repeat (first | (with_reducible first | exact HB.out | apply below_alloc | apply pw_below_drewN | apply below_drew1 | refine below_set ?_ GE190.out | refine below_set ?_ GE200.out) | exact HB.out))))
                                                          (case aL => have := LMc57.out; omega)
                                                          intro v218 w77 ho hb hg hat
                                                          rw [← Ny217.out] at ho
                                                          have n0_ := Aside0.mk (Kd.N_afterv (ok := (fun k_ => some k_ ≠ (.slice Ao36 y184.length co36 : Value).ownBlock ∧ some k_ ≠ (.slice Ao35 y187.length co35 : Value).ownBlock ∧ k_ ≠ gb190 ∧ k_ ≠ gb200)) (by (with_reducible repeat (first | apply Kd.N_alloc | apply Kd.N_drewN | apply Kd.N_drew)); exact HO_7.out) hg hat)
                                                          have n1_ := Aside0.mk (Kd.R_over' (by (with_reducible repeat (first | apply Kd.R_alloc | apply Kd.R_drewN | apply Kd.R_drew)); exact HO_191000.out) (Kd.N_typed (by (with_reducible repeat (first | apply Kd.N_alloc | apply Kd.N_drewN | apply Kd.N_drew)); exact HO211.out)) (by decide) hg)
                                                          have n2_ := Aside0.mk (Kd.R_over' (by (with_reducible repeat (first | apply Kd.R_alloc | apply Kd.R_drewN | apply Kd.R_drew)); exact HO_191001.out) (Kd.N_typed (by (with_reducible repeat (first | apply Kd.N_alloc | apply Kd.N_drewN | apply Kd.N_drew)); exact HO211.out)) (by decide) hg)
                                                          have n3_ := Aside0.mk (blk_grown (g := gb190) (o := .cells #[.slice Ao36 y184.length co36, .slice Ao35 y187.length co35] 25 (0, 0)) (by (with_reducible repeat (first | refine blk_drewN ?_ _ | refine blk_drew ?_ | refine blk_alloc ?_ _)); exact BK190.out) hg (Kd.N_away HO211.out (fun _ hk => hk.2.2.1)))
                                                          have n4_ := Aside0.mk (Kd.V_afterv (ok := (fun k_ => some k_ ≠ (.slice (some ad199) y181.length co39 : Value).ownBlock ∧ some k_ ≠ (.slice Ao36 y184.length co36 : Value).ownBlock ∧ some k_ ≠ (.slice Ao35 y187.length co35 : Value).ownBlock ∧ k_ ≠ gb190 ∧ k_ ≠ gb200)) (by (with_reducible repeat (first | apply Kd.V_alloc | apply Kd.V_drewN | apply Kd.V_drew)); exact HL199_0.out) hg hat)
                                                          have n5_ := Aside0.mk (Kd.V_afterv (ok := (fun k_ => some k_ ≠ (.slice (some ad199) y181.length co39 : Value).ownBlock ∧ some k_ ≠ (.slice Ao36 y184.length co36 : Value).ownBlock ∧ some k_ ≠ (.slice Ao35 y187.length co35 : Value).ownBlock ∧ k_ ≠ gb190 ∧ k_ ≠ gb200)) (by (with_reducible repeat (first | apply Kd.V_alloc | apply Kd.V_drewN | apply Kd.V_drew)); exact HL199_1.out) hg hat)
                                                          have n6_ := Aside0.mk (blk_grown (g := gb200) (o := .cells #[.slice A199_0 ((rd_T25 y181 a2).f0).length c199_0, .slice A199_1 ((rd_T25 y181 a2).f1).length c199_1] 25 (0, 0)) (by (with_reducible repeat (first | refine blk_drewN ?_ _ | refine blk_drew ?_ | refine blk_alloc ?_ _)); exact BK200.out) hg (Kd.N_away HO211.out (fun _ hk => hk.2.2.2)))
                                                          have n7_ := Aside0.mk (Kd.V_afterv (ok := (fun k_ => some k_ ≠ (.slice Ao36 y184.length co36 : Value).ownBlock ∧ some k_ ≠ (.slice Ao35 y187.length co35 : Value).ownBlock ∧ k_ ≠ gb190 ∧ k_ ≠ gb200)) (by (with_reducible repeat (first | apply Kd.V_alloc | apply Kd.V_drewN | apply Kd.V_drew)); exact HO208.out) hg hat)
                                                          have n8_ := Aside0.mk (Kd.V_afterv (ok := (fun k_ => some k_ ≠ (.slice Ao36 y184.length co36 : Value).ownBlock ∧ some k_ ≠ (.slice Ao35 y187.length co35 : Value).ownBlock ∧ k_ ≠ gb190 ∧ k_ ≠ gb200)) (by (with_reducible repeat (first | apply Kd.V_alloc | apply Kd.V_drewN | apply Kd.V_drew)); exact HO216.out) hg hat)
                                                          have n9_ := Aside0.mk (hb)
                                                          have n10_ := Aside0.mk (ho)
                                                          clear HO_7
                                                          clear HO_191000
                                                          clear HO_191001
                                                          clear BK190
                                                          clear HL199_0
                                                          clear HL199_1
                                                          clear BK200
                                                          clear HO208
                                                          clear HO216
                                                          clear HB
                                                          clear HO211
                                                          have HO_7 := n0_
                                                          have HO_191000 := n1_
                                                          have HO_191001 := n2_
                                                          have BK190 := n3_
                                                          have HL199_0 := n4_
                                                          have HL199_1 := n5_
                                                          have BK200 := n6_
                                                          have HO208 := n7_
                                                          have HO216 := n8_
                                                          have HB := n9_
                                                          have HO219 := n10_
                                                          clear n0_ n1_ n2_ n3_ n4_ n5_ n6_ n7_ n8_ n9_ n10_
                                                          clear ho hb hg hat
                                                          refine hK.out _ _ trivial (fun hHeld => ?_)
                                                          clear hK K
                                                          refine norm_ (a' := ?_) ?_ ?_
                                                          rotate_left
                                                          · show Act.put _ (some 112) _ = _
                                                            simp only [Act.put, List.setIfInBounds_toArray, List.set_cons_zero, List.set_cons_succ, i64_w, i32_w]
                                                            rfl
                                                          refine pure_ (i := 10) (N := some 18) (v := ?_) (a' := ?_) #[true, true, true, true, true, true, true, true, true, true, true] rfl rfl (any_of HT_.out (by kernel_rfl)) (fun _ _ _ h => h) (Or.inl ⟨by rfl, ?_⟩) ?_ ?_
                                                          rotate_left
                                                          · intro w'
                                                            go_simp
                                                            with_reducible rfl
                                                          rotate_left
                                                          · simp only [Act.put, List.setIfInBounds_toArray, List.set_cons_zero, List.set_cons_succ, i64_w, i32_w]
                                                            rfl
                                                          refine done_ (done_of HT_.out (by kernel_rfl)) ?_
                                                          have hcz78_0 : w77.cell? ⟨gb190, 0, none⟩ = some (.slice Ao36 y184.length co36) := (blk_cell BK190.out 0).trans rfl
                                                          have hcz78_1 : w77.cell? ⟨gb190, 1, none⟩ = some (.slice Ao35 y187.length co35) := (blk_cell BK190.out 1).trans rfl
                                                          have hfz78_0 := blk_frozen BK190.out 0
                                                          have hfz78_1 := blk_frozen BK190.out 1
                                                          obtain ⟨Ao79, co79, eo79⟩ := Kd.N_slice HO219.out
                                                          subst eo79
                                                          try go_wp2_with (first | ((with_reducible refine gate_callee (f := 7) rfl ?_); refine goesL_ (some 116) rfl rfl Try.func7 (by kernel_rfl) rfl #[.slice Ao79 y217.length co79, .agg #[.slice Ao36 y184.length co36, .slice Ao35 y187.length co35]] rfl (by (try simp only [List.map_toArray, List.map_cons, List.map_nil]); first | done | rfl | (simp only [List.length_drop, List.length_take]; rfl)) ?_; (with_reducible refine (gaps_Hole.calls kj43 _ _ y217 _ _ y184 _ _ y187 t220 true _ ?side1 ?side2 ?side3 ?side4 ?side5 ?side6 A58.out).mono ?_); (case side1 => repeat (first | exact (Kd.N_reads' HO219.out).2.2 | (with_reducible refine Kd.C_alloc ?_ _) | (with_reducible refine Kd.C_drewN ?_ _) | (with_reducible refine Kd.C_drew ?_))); (case side2 => exact (Kd.N_reads' HO219.out).2.1); (case side3 => repeat (first | exact (Kd.R_reads' HO_191000.out).2.2 | (with_reducible refine Kd.C_alloc ?_ _) | (with_reducible refine Kd.C_drewN ?_ _) | (with_reducible refine Kd.C_drew ?_))); (case side4 => exact (Kd.R_reads' HO_191000.out).2.1); (case side5 => repeat (first | exact (Kd.R_reads' HO_191001.out).2.2 | (with_reducible refine Kd.C_alloc ?_ _) | (with_reducible refine Kd.C_drewN ?_ _) | (with_reducible refine Kd.C_drew ?_))); (case side6 => exact (Kd.R_reads' HO_191001.out).2.1); rintro e w80 ⟨v221, rfl, ho0, hb⟩; refine ⟨_, rfl, ?_⟩; have n0_ := Aside0.mk (Kd.N_elder' (by (with_reducible repeat (first | apply Kd.N_alloc | apply Kd.N_drewN | apply Kd.N_drew)); exact HO_7.out) (Kd.R_base ho0) hb); have n1_ := Aside0.mk (Kd.R_elder' (by (with_reducible repeat (first | apply Kd.R_alloc | apply Kd.R_drewN | apply Kd.R_drew)); exact HO_191000.out) (Kd.R_base ho0) hb); have n2_ := Aside0.mk (Kd.R_elder' (by (with_reducible repeat (first | apply Kd.R_alloc | apply Kd.R_drewN | apply Kd.R_drew)); exact HO_191001.out) (Kd.R_base ho0) hb); have n3_ := Aside0.mk (Kd.V_elder' (by (with_reducible repeat (first | apply Kd.V_alloc | apply Kd.V_drewN | apply Kd.V_drew)); exact HL199_0.out) (Kd.R_base ho0) hb); have n4_ := Aside0.mk (Kd.V_elder' (by (with_reducible repeat (first | apply Kd.V_alloc | apply Kd.V_drewN | apply Kd.V_drew)); exact HL199_1.out) (Kd.R_base ho0) hb); have n5_ := Aside0.mk (Kd.V_elder' (by (with_reducible repeat (first | apply Kd.V_alloc | apply Kd.V_drewN | apply Kd.V_drew)); exact HO208.out) (Kd.R_base ho0) hb); have n6_ := Aside0.mk (Kd.V_elder' (by (with_reducible repeat (first | apply Kd.V_alloc | apply Kd.V_drewN | apply Kd.V_drew)); exact HO216.out) (Kd.R_base ho0) hb); have n7_ := Aside0.mk (Kd.N_elder' (by (with_reducible repeat (first | apply Kd.N_alloc | apply Kd.N_drewN | apply Kd.N_drew)); exact HO219.out) (Kd.R_base ho0) hb); have n8_ := Aside0.mk (Kd.R_lower (Kd.R_new' (Kd.R_new' ho0 (Kd.R_lt (by (with_reducible repeat (first | apply Kd.R_alloc | apply Kd.R_drewN | apply Kd.R_drew)); exact HO_191000.out))) (Kd.R_lt (by (with_reducible repeat (first | apply Kd.R_alloc | apply Kd.R_drewN | apply Kd.R_drew)); exact HO_191001.out))) (below_size (by repeat (first | (with_reducible first | exact HB.out | apply below_alloc | apply pw_below_drewN | apply below_drew1 | refine below_set ?_ GE190.out | refine below_set ?_ GE200.out) | exact HB.out)))); have n9_ := Aside0.mk (blk_below (g := gb190) (o := .cells #[.slice Ao36 y184.length co36, .slice Ao35 y187.length co35] 25 (0, 0)) (by (with_reducible repeat (first | refine blk_drewN ?_ _ | refine blk_drew ?_ | refine blk_alloc ?_ _)); exact BK190.out) hb); have n10_ := Aside0.mk (blk_below (g := gb200) (o := .cells #[.slice A199_0 ((rd_T25 y181 a2).f0).length c199_0, .slice A199_1 ((rd_T25 y181 a2).f1).length c199_1] 25 (0, 0)) (by (with_reducible repeat (first | refine blk_drewN ?_ _ | refine blk_drew ?_ | refine blk_alloc ?_ _)); exact BK200.out) hb); have n11_ := Aside0.mk (below_step (by repeat (first | (with_reducible first | exact HB.out | apply below_alloc | apply pw_below_drewN | apply below_drew1 | refine below_set ?_ GE190.out | refine below_set ?_ GE200.out) | exact HB.out)) hb); clear HO_7; clear HO_191000; clear HO_191001; clear HL199_0; clear HL199_1; clear HO208; clear HO216; clear HO219; clear BK190; clear BK200; clear HB; have HO_7 := n0_; have HO_191000 := n1_; have HO_191001 := n2_; have HL199_0 := n3_; have HL199_1 := n4_; have HO208 := n5_; have HO216 := n6_; have HO219 := n7_; have HO222 := n8_; have BK190 := n9_; have BK200 := n10_; have HB := n11_; clear n0_ n1_ n2_ n3_ n4_ n5_ n6_ n7_ n8_ n9_ n10_ n11_; (try clear hb); (try clear hb2); (try clear hk); (try clear hi); (try clear ho0)))
                                                          have n0_ := Aside0.mk (Kd.N_drew HO_7.out)
                                                          have n1_ := Aside0.mk (Kd.R_drew HO_191000.out)
                                                          have n2_ := Aside0.mk (Kd.R_drew HO_191001.out)
                                                          have n3_ := Aside0.mk (Kd.V_drew HL199_0.out)
                                                          have n4_ := Aside0.mk (Kd.V_drew HL199_1.out)
                                                          have n5_ := Aside0.mk (Kd.V_drew HO208.out)
                                                          have n6_ := Aside0.mk (Kd.V_drew HO216.out)
                                                          have n7_ := Aside0.mk (Kd.N_drew HO219.out)
                                                          have n8_ := Aside0.mk (Kd.R_drew HO222.out)
                                                          have n9_ := Aside0.mk (blk_drew BK190.out)
                                                          have n10_ := Aside0.mk (blk_drew BK200.out)
                                                          have n11_ := Aside0.mk (below_drew1 HB.out)
                                                          clear HO_7
                                                          clear HO_191000
                                                          clear HO_191001
                                                          clear HL199_0
                                                          clear HL199_1
                                                          clear HO208
                                                          clear HO216
                                                          clear HO219
                                                          clear HO222
                                                          clear BK190
                                                          clear BK200
                                                          clear HB
                                                          have HO_7 := n0_
                                                          have HO_191000 := n1_
                                                          have HO_191001 := n2_
                                                          have HL199_0 := n3_
                                                          have HL199_1 := n4_
                                                          have HO208 := n5_
                                                          have HO216 := n6_
                                                          have HO219 := n7_
                                                          have HO222 := n8_
                                                          have BK190 := n9_
                                                          have BK200 := n10_
                                                          have HB := n11_
                                                          clear n0_ n1_ n2_ n3_ n4_ n5_ n6_ n7_ n8_ n9_ n10_ n11_
                                                          obtain ⟨Ao82, co82, eo82⟩ := Kd.R_slice HO222.out
                                                          (first | subst eo82 | (injection eo82 with f1_ f2_ f3_; have f4_ := f1_.symm; have f5_ := f3_.symm; clear f1_ f2_ f3_; subst f4_; subst f5_))
                                                          have p224 : 0 ≤ (0 : Int) := (by omega)
                                                          have q224 : 0 < (t220.length : Int) := of_decide_eq_true (by first | (with_reducible assumption) | assumption)
                                                          obtain ⟨ad224, e224, hx224_0⟩ := Kd.at_int (Kd.R_reads' HO222.out).2.2 0 p224 q224
                                                          cases e224
                                                          have qi224 : (0 < t220.length) = True := eq_true (by omega)
                                                          (try rw [show ((0 : Int)).toNat = 0 from rfl] at hx224_0)
                                                          (try rw [Addr.add_zero'] at hx224_0)
                                                          replace p224 := eq_true p224
                                                          replace q224 := eq_true q224
                                                          have p225 : 0 ≤ (0 : Int) := (by omega)
                                                          have q225 : 0 < (((rd_T25 y181 a2).f0).length : Int) := of_decide_eq_true (by first | (with_reducible assumption) | assumption)
                                                          obtain ⟨ad225, e225, hx225_0⟩ := Kd.at_int ((Kd.V_reads' HL199_0.out).2.2) 0 p225 q225
                                                          cases e225
                                                          have qi225 : (0 < ((rd_T25 y181 a2).f0).length) = True := eq_true (by omega)
                                                          (try rw [show ((0 : Int)).toNat = 0 from rfl] at hx225_0)
                                                          (try rw [Addr.add_zero'] at hx225_0)
                                                          replace p225 := eq_true p225
                                                          replace q225 := eq_true q225
                                                          have p226 : 0 ≤ (1 : Int) := (by omega)
                                                          have q226 : 1 < (t220.length : Int) := of_decide_eq_true (by first | (with_reducible assumption) | assumption)
                                                          obtain ⟨ad226, e226, hx226_0⟩ := Kd.at_int (Kd.R_reads' HO222.out).2.2 1 p226 q226
                                                          obtain rfl : ad224 = ad226 := (by injection e226)
                                                          (try simp only [show (1 : Int).toNat = 1 from rfl, Nat.reduceMul, Nat.reduceEqDiff, Go.Addr.add, ↓reduceIte] at hx226_0)
                                                          have qi226 : (1 < t220.length) = True := eq_true (by omega)
                                                          (try rw [show ((1 : Int)).toNat = 1 from rfl] at hx226_0)
                                                          replace p226 := eq_true p226
                                                          replace q226 := eq_true q226
                                                          refine start_ (n := 26) (S := fun w' => w'.cell? ⟨gb200, 0, none⟩ = some (.slice (some ad225) ((rd_T25 y181 a2).f0).length c199_0) ∧ w'.cell? ⟨gb200, 1, none⟩ = some (.slice A199_1 ((rd_T25 y181 a2).f1).length c199_1) ∧ w'.cell? ad224 = some (.int .i64 (rd t220 0)) ∧ w'.cell? ad225 = some (.int .i64 (rd ((rd_T25 y181 a2).f0) 0)) ∧ w'.cell? ⟨ad224.block, ad224.off + 1, none⟩ = some (.int .i64 (rd t220 1))) (ds := []) #[false, false, false, false, false, false, false, false, false, false, false, false, false, false, false, false, false, false, false, false, false, false, false, false, false, false] (by kernel_rfl) rfl rfl ⟨(blk_cell BK200.out 0).trans rfl, (blk_cell BK200.out 1).trans rfl, hx224_0, hx225_0, hx226_0⟩ (fun hHeld => ?_); refine with_tabW dossierlaw9_GapsParts.tab23 dossierlaw9_GapsParts.bits23 (fun HT_ HW_ => ?_)
                                                          generalize w80.drew = w81 at HO_7 HO_191000 HO_191001 HL199_0 HL199_1 HO208 HO216 HO219 HO222 BK190 BK200 HB hx224_0 hx225_0 hx226_0 hHeld ⊢
                                                          refine pure_ (i := 0) (N := some 119) (v := ?_) (a' := ?_) #[true, false, false, false, false, false, false, false, false, false, false, false, false, false, false, false, false, false, false, false, false, false, false, false, false, false] rfl rfl (any_of HT_.out (by kernel_rfl)) (fun _ _ _ h => h) (Or.inl ⟨by rfl, ?_⟩) ?_ ?_
                                                          rotate_left
                                                          · intro w'
                                                            go_simp
                                                            with_reducible rfl
                                                          rotate_left
                                                          · simp only [Act.put, List.setIfInBounds_toArray, List.set_cons_zero, List.set_cons_succ, i64_w, i32_w]
                                                            rfl
                                                          refine pure_ (i := 1) (N := some 120) (v := ?_) (a' := ?_) #[true, true, false, false, false, false, false, false, false, false, false, false, false, false, false, false, false, false, false, false, false, false, false, false, false, false] rfl rfl (any_of HT_.out (by kernel_rfl)) (fun _ _ _ h => h) (Or.inl ⟨by rfl, ?_⟩) ?_ ?_
                                                          rotate_left
                                                          · intro w'
                                                            go_simp
                                                            with_reducible rfl
                                                          rotate_left
                                                          · simp only [Act.put, List.setIfInBounds_toArray, List.set_cons_zero, List.set_cons_succ, i64_w, i32_w]
                                                            rfl
                                                          refine pure_ (i := 2) (N := some 121) (v := ?_) (a' := ?_) #[true, true, true, false, false, false, false, false, false, false, false, false, false, false, false, false, false, false, false, false, false, false, false, false, false, false] rfl rfl (any_of HT_.out (by kernel_rfl)) (fun _ _ _ h => h) (Or.inl ⟨by rfl, ?_⟩) ?_ ?_
                                                          rotate_left
                                                          · intro w'
                                                            go_simp
                                                            with_reducible rfl
                                                          rotate_left
                                                          · simp only [Act.put, List.setIfInBounds_toArray, List.set_cons_zero, List.set_cons_succ, i64_w, i32_w]
                                                            rfl
                                                          refine pure_ (i := 3) (N := some 122) (v := ?_) (a' := ?_) #[true, true, true, true, false, false, false, false, false, false, false, false, false, false, false, false, false, false, false, false, false, false, false, false, false, false] rfl rfl (any_of HT_.out (by kernel_rfl)) (fun _ _ _ h => h) (Or.inl ⟨by rfl, ?_⟩) ?_ ?_
                                                          rotate_left
                                                          · intro w'
                                                            go_simp
                                                            with_reducible rfl
                                                          rotate_left
                                                          · simp only [Act.put, List.setIfInBounds_toArray, List.set_cons_zero, List.set_cons_succ, i64_w, i32_w]
                                                            rfl
                                                          refine pure_ (i := 4) (N := some 123) (v := ?_) (a' := ?_) #[true, true, true, true, true, false, false, false, false, false, false, false, false, false, false, false, false, false, false, false, false, false, false, false, false, false] rfl rfl (any_of HT_.out (by kernel_rfl)) (fun _ _ _ h => h) (Or.inl ⟨by rfl, ?_⟩) ?_ ?_
                                                          rotate_left
                                                          · intro w'
                                                            go_simp
                                                            with_reducible rfl
                                                          rotate_left
                                                          · simp only [Act.put, List.setIfInBounds_toArray, List.set_cons_zero, List.set_cons_succ, i64_w, i32_w]
                                                            rfl
                                                          refine pure_ (i := 5) (N := some 124) (v := ?_) (a' := ?_) #[true, true, true, true, true, true, false, false, false, false, false, false, false, false, false, false, false, false, false, false, false, false, false, false, false, false] rfl rfl (any_of HT_.out (by kernel_rfl)) (fun _ _ _ h => h) (Or.inl ⟨by rfl, ?_⟩) ?_ ?_
                                                          rotate_left
                                                          · intro w'
                                                            go_simp
                                                            with_reducible rfl
                                                          rotate_left
                                                          · simp only [Act.put, List.setIfInBounds_toArray, List.set_cons_zero, List.set_cons_succ, i64_w, i32_w]
                                                            rfl
                                                          refine pure_ (i := 6) (N := some 125) (v := ?_) (a' := ?_) #[true, true, true, true, true, true, true, false, false, false, false, false, false, false, false, false, false, false, false, false, false, false, false, false, false, false] rfl rfl (any_of HT_.out (by kernel_rfl)) (fun _ _ _ h => h) (Or.inl ⟨by rfl, ?_⟩) ?_ ?_
                                                          rotate_left
                                                          · intro w'
                                                            go_simp
                                                            with_reducible rfl
                                                          rotate_left
                                                          · simp only [Act.put, List.setIfInBounds_toArray, List.set_cons_zero, List.set_cons_succ, i64_w, i32_w]
                                                            rfl
                                                          refine pure_ (i := 7) (N := some 126) (v := ?_) (a' := ?_) #[true, true, true, true, true, true, true, true, false, false, false, false, false, false, false, false, false, false, false, false, false, false, false, false, false, false] rfl rfl (any_of HT_.out (by kernel_rfl)) (fun _ _ _ h => h) (Or.inl ⟨by rfl, ?_⟩) ?_ ?_
                                                          rotate_left
                                                          · intro w'
                                                            go_simp
                                                            with_reducible rfl
                                                          rotate_left
                                                          · simp only [Act.put, List.setIfInBounds_toArray, List.set_cons_zero, List.set_cons_succ, i64_w, i32_w]
                                                            rfl
                                                          refine pure_ (i := 8) (N := some 127) (v := ?_) (a' := ?_) #[true, true, true, true, true, true, true, true, true, false, false, false, false, false, false, false, false, false, false, false, false, false, false, false, false, false] rfl rfl (any_of HT_.out (by kernel_rfl)) (fun _ _ _ h => h) (Or.inl ⟨by rfl, ?_⟩) ?_ ?_
                                                          rotate_left
                                                          · intro w'
                                                            go_simp
                                                            with_reducible rfl
                                                          rotate_left
                                                          · simp only [Act.put, List.setIfInBounds_toArray, List.set_cons_zero, List.set_cons_succ, i64_w, i32_w]
                                                            rfl
                                                          refine pure_ (i := 10) (N := some 129) (v := ?_) (a' := ?_) #[true, true, true, true, true, true, true, true, true, false, true, false, false, false, false, false, false, false, false, false, false, false, false, false, false, false] rfl rfl (any_of HT_.out (by kernel_rfl)) (fun _ _ _ h => h) (Or.inl ⟨by rfl, ?_⟩) ?_ ?_
                                                          rotate_left
                                                          · intro w'
                                                            go_simp
                                                            with_reducible rfl
                                                          rotate_left
                                                          · simp only [Act.put, List.setIfInBounds_toArray, List.set_cons_zero, List.set_cons_succ, i64_w, i32_w]
                                                            rfl
                                                          refine take_ (i := 9) (N := some 128) (v := ?_) (a' := ?_) #[true, true, true, true, true, true, true, true, true, true, true, false, false, false, false, false, false, false, false, false, false, false, false, false, false, false] rfl rfl (take_ofW HT_.out HW_.out (by kernel_rfl)) (fun _ _ _ h => h) (Or.inl ⟨by rfl, ?_⟩) hHeld ?_ ?_
                                                          rotate_left
                                                          · rintro w' ⟨s0, s1, s2, s3, s4⟩
                                                            go_simp
                                                            with_reducible rfl
                                                          rotate_left
                                                          · simp only [Act.put, List.setIfInBounds_toArray, List.set_cons_zero, List.set_cons_succ, i64_w, i32_w]
                                                            rfl
                                                          refine take_ (i := 11) (N := some 130) (v := ?_) (a' := ?_) #[true, true, true, true, true, true, true, true, true, true, true, true, false, false, false, false, false, false, false, false, false, false, false, false, false, false] rfl rfl (take_ofW HT_.out HW_.out (by kernel_rfl)) (fun _ _ _ h => h) (Or.inl ⟨by rfl, ?_⟩) hHeld ?_ ?_
                                                          rotate_left
                                                          · rintro w' ⟨s0, s1, s2, s3, s4⟩
                                                            go_simp
                                                            with_reducible rfl
                                                          rotate_left
                                                          · simp only [Act.put, List.setIfInBounds_toArray, List.set_cons_zero, List.set_cons_succ, i64_w, i32_w]
                                                            rfl
                                                          refine pure_ (i := 12) (N := some 131) (v := ?_) (a' := ?_) #[true, true, true, true, true, true, true, true, true, true, true, true, true, false, false, false, false, false, false, false, false, false, false, false, false, false] rfl rfl (any_of HT_.out (by kernel_rfl)) (fun _ _ _ h => h) (Or.inl ⟨by rfl, ?_⟩) ?_ ?_
                                                          rotate_left
                                                          · intro w'
                                                            go_simp
                                                            with_reducible rfl
                                                          rotate_left
                                                          · simp only [Act.put, List.setIfInBounds_toArray, List.set_cons_zero, List.set_cons_succ, i64_w, i32_w]
                                                            rfl
                                                          refine take_ (i := 13) (N := some 132) (v := ?_) (a' := ?_) #[true, true, true, true, true, true, true, true, true, true, true, true, true, true, false, false, false, false, false, false, false, false, false, false, false, false] rfl rfl (take_ofW HT_.out HW_.out (by kernel_rfl)) (fun _ _ _ h => h) (Or.inl ⟨by rfl, ?_⟩) hHeld ?_ ?_
                                                          rotate_left
                                                          · rintro w' ⟨s0, s1, s2, s3, s4⟩
                                                            go_simp
                                                            with_reducible rfl
                                                          rotate_left
                                                          · simp only [Act.put, List.setIfInBounds_toArray, List.set_cons_zero, List.set_cons_succ, i64_w, i32_w]
                                                            rfl
                                                          refine pure_ (i := 14) (N := some 133) (v := ?_) (a' := ?_) #[true, true, true, true, true, true, true, true, true, true, true, true, true, true, true, false, false, false, false, false, false, false, false, false, false, false] rfl rfl (any_of HT_.out (by kernel_rfl)) (fun _ _ _ h => h) (Or.inl ⟨by rfl, ?_⟩) ?_ ?_
                                                          rotate_left
                                                          · intro w'
                                                            go_simp
                                                            with_reducible rfl
                                                          rotate_left
                                                          · simp only [Act.put, List.setIfInBounds_toArray, List.set_cons_zero, List.set_cons_succ, i64_w, i32_w]
                                                            rfl
                                                          refine pure_ (i := 15) (N := some 134) (v := ?_) (a' := ?_) #[true, true, true, true, true, true, true, true, true, true, true, true, true, true, true, true, false, false, false, false, false, false, false, false, false, false] rfl rfl (any_of HT_.out (by kernel_rfl)) (fun _ _ _ h => h) (Or.inl ⟨by rfl, ?_⟩) ?_ ?_
                                                          rotate_left
                                                          · intro w'
                                                            go_simp
                                                            with_reducible rfl
                                                          rotate_left
                                                          · simp only [Act.put, List.setIfInBounds_toArray, List.set_cons_zero, List.set_cons_succ, i64_w, i32_w]
                                                            rfl
                                                          refine pure_ (i := 16) (N := some 135) (v := ?_) (a' := ?_) #[true, true, true, true, true, true, true, true, true, true, true, true, true, true, true, true, true, false, false, false, false, false, false, false, false, false] rfl rfl (any_of HT_.out (by kernel_rfl)) (fun _ _ _ h => h) (Or.inl ⟨by rfl, ?_⟩) ?_ ?_
                                                          rotate_left
                                                          · intro w'
                                                            go_simp
                                                            with_reducible rfl
                                                          rotate_left
                                                          · simp only [Act.put, List.setIfInBounds_toArray, List.set_cons_zero, List.set_cons_succ, i64_w, i32_w]
                                                            rfl
                                                          refine pure_ (i := 17) (N := some 136) (v := ?_) (a' := ?_) #[true, true, true, true, true, true, true, true, true, true, true, true, true, true, true, true, true, true, false, false, false, false, false, false, false, false] rfl rfl (any_of HT_.out (by kernel_rfl)) (fun _ _ _ h => h) (Or.inl ⟨by rfl, ?_⟩) ?_ ?_
                                                          rotate_left
                                                          · intro w'
                                                            go_simp
                                                            with_reducible rfl
                                                          rotate_left
                                                          · simp only [Act.put, List.setIfInBounds_toArray, List.set_cons_zero, List.set_cons_succ, i64_w, i32_w]
                                                            rfl
                                                          refine pure_ (i := 18) (N := some 137) (v := ?_) (a' := ?_) #[true, true, true, true, true, true, true, true, true, true, true, true, true, true, true, true, true, true, true, false, false, false, false, false, false, false] rfl rfl (any_of HT_.out (by kernel_rfl)) (fun _ _ _ h => h) (Or.inl ⟨by rfl, ?_⟩) ?_ ?_
                                                          rotate_left
                                                          · intro w'
                                                            go_simp
                                                            with_reducible rfl
                                                          rotate_left
                                                          · simp only [Act.put, List.setIfInBounds_toArray, List.set_cons_zero, List.set_cons_succ, i64_w, i32_w]
                                                            rfl
                                                          refine take_ (i := 19) (N := some 138) (v := ?_) (a' := ?_) #[true, true, true, true, true, true, true, true, true, true, true, true, true, true, true, true, true, true, true, true, false, false, false, false, false, false] rfl rfl (take_ofW HT_.out HW_.out (by kernel_rfl)) (fun _ _ _ h => h) (Or.inl ⟨by rfl, ?_⟩) hHeld ?_ ?_
                                                          rotate_left
                                                          · rintro w' ⟨s0, s1, s2, s3, s4⟩
                                                            go_simp
                                                            with_reducible rfl
                                                          rotate_left
                                                          · simp only [Act.put, List.setIfInBounds_toArray, List.set_cons_zero, List.set_cons_succ, i64_w, i32_w]
                                                            rfl
                                                          refine pure_ (i := 20) (N := some 139) (v := ?_) (a' := ?_) #[true, true, true, true, true, true, true, true, true, true, true, true, true, true, true, true, true, true, true, true, true, false, false, false, false, false] rfl rfl (any_of HT_.out (by kernel_rfl)) (fun _ _ _ h => h) (Or.inl ⟨by rfl, ?_⟩) ?_ ?_
                                                          rotate_left
                                                          · intro w'
                                                            go_simp
                                                            with_reducible rfl
                                                          rotate_left
                                                          · simp only [Act.put, List.setIfInBounds_toArray, List.set_cons_zero, List.set_cons_succ, i64_w, i32_w]
                                                            rfl
                                                          refine pure_ (i := 21) (N := some 140) (v := ?_) (a' := ?_) #[true, true, true, true, true, true, true, true, true, true, true, true, true, true, true, true, true, true, true, true, true, true, false, false, false, false] rfl rfl (any_of HT_.out (by kernel_rfl)) (fun _ _ _ h => h) (Or.inl ⟨by rfl, ?_⟩) ?_ ?_
                                                          rotate_left
                                                          · intro w'
                                                            go_simp
                                                            with_reducible rfl
                                                          rotate_left
                                                          · simp only [Act.put, List.setIfInBounds_toArray, List.set_cons_zero, List.set_cons_succ, i64_w, i32_w]
                                                            rfl
                                                          refine pure_ (i := 22) (N := some 141) (v := ?_) (a' := ?_) #[true, true, true, true, true, true, true, true, true, true, true, true, true, true, true, true, true, true, true, true, true, true, true, false, false, false] rfl rfl (any_of HT_.out (by kernel_rfl)) (fun _ _ _ h => h) (Or.inl ⟨by rfl, ?_⟩) ?_ ?_
                                                          rotate_left
                                                          · intro w'
                                                            go_simp
                                                            with_reducible rfl
                                                          rotate_left
                                                          · simp only [Act.put, List.setIfInBounds_toArray, List.set_cons_zero, List.set_cons_succ, i64_w, i32_w]
                                                            rfl
                                                          refine one_ (i := 23) (N := some 142) #[true, true, true, true, true, true, true, true, true, true, true, true, true, true, true, true, true, true, true, true, true, true, true, true, false, false] rfl rfl (one_of HT_.out (by kernel_rfl)) (by decide) (fun K hK => ?_)
                                                          refine goes_ Try.func9 (by kernel_rfl) rfl #[] (by rfl) rfl rfl (by (try simp only [List.map_toArray, List.map_cons, List.map_nil]); first | done | rfl | (simp only [List.length_drop, List.length_take]; rfl)) ?_
                                                          with_reducible refine (dossierlaw9_known.calls  t227 _ A66.out).mono ?_
                                                          rintro e w83 ⟨rfl, hb⟩
                                                          have HS2_ := (hb.cell (World.block_lt_of_cell? _ _ (hHeld.2.2.1))).trans (hHeld.2.2.1)
                                                          have HS3_ := (hb.cell (World.block_lt_of_cell? _ _ (hHeld.2.2.2.1))).trans (hHeld.2.2.2.1)
                                                          have HS4_ := (hb.cell (World.block_lt_of_cell? _ _ (hHeld.2.2.2.2))).trans (hHeld.2.2.2.2)
                                                          refine ⟨_, rfl, ?_⟩
                                                          have n0_ := Aside0.mk (Kd.N_below (by (with_reducible repeat (first | apply Kd.N_alloc | apply Kd.N_drewN | apply Kd.N_drew)); exact HO_7.out) hb)
                                                          have n1_ := Aside0.mk (Kd.R_below (by (with_reducible repeat (first | apply Kd.R_alloc | apply Kd.R_drewN | apply Kd.R_drew)); exact HO_191000.out) hb)
                                                          have n2_ := Aside0.mk (Kd.R_below (by (with_reducible repeat (first | apply Kd.R_alloc | apply Kd.R_drewN | apply Kd.R_drew)); exact HO_191001.out) hb)
                                                          have n3_ := Aside0.mk (Kd.V_below (by (with_reducible repeat (first | apply Kd.V_alloc | apply Kd.V_drewN | apply Kd.V_drew)); exact HL199_0.out) hb)
                                                          have n4_ := Aside0.mk (Kd.V_below (by (with_reducible repeat (first | apply Kd.V_alloc | apply Kd.V_drewN | apply Kd.V_drew)); exact HL199_1.out) hb)
                                                          have n5_ := Aside0.mk (Kd.V_below (by (with_reducible repeat (first | apply Kd.V_alloc | apply Kd.V_drewN | apply Kd.V_drew)); exact HO208.out) hb)
                                                          have n6_ := Aside0.mk (Kd.V_below (by (with_reducible repeat (first | apply Kd.V_alloc | apply Kd.V_drewN | apply Kd.V_drew)); exact HO216.out) hb)
                                                          have n7_ := Aside0.mk (Kd.N_below (by (with_reducible repeat (first | apply Kd.N_alloc | apply Kd.N_drewN | apply Kd.N_drew)); exact HO219.out) hb)
                                                          have n8_ := Aside0.mk (Kd.R_below (by (with_reducible repeat (first | apply Kd.R_alloc | apply Kd.R_drewN | apply Kd.R_drew)); exact HO222.out) hb)
                                                          have n9_ := Aside0.mk (blk_below (g := gb190) (o := .cells #[.slice Ao36 y184.length co36, .slice Ao35 y187.length co35] 25 (0, 0)) (by (with_reducible repeat (first | refine blk_drewN ?_ _ | refine blk_drew ?_ | refine blk_alloc ?_ _)); exact BK190.out) hb)
                                                          have n10_ := Aside0.mk (blk_below (g := gb200) (o := .cells #[.slice (some ad225) ((rd_T25 y181 a2).f0).length c199_0, .slice A199_1 ((rd_T25 y181 a2).f1).length c199_1] 25 (0, 0)) (by (with_reducible repeat (first | refine blk_drewN ?_ _ | refine blk_drew ?_ | refine blk_alloc ?_ _)); exact BK200.out) hb)
                                                          have n11_ := Aside0.mk (below_step (by repeat (first | (with_reducible first | exact HB.out | apply below_alloc | apply pw_below_drewN | apply below_drew1 | refine below_set ?_ GE190.out | refine below_set ?_ GE200.out) | exact HB.out)) hb)
                                                          clear HO_7
                                                          clear HO_191000
                                                          clear HO_191001
                                                          clear HL199_0
                                                          clear HL199_1
                                                          clear HO208
                                                          clear HO216
                                                          clear HO219
                                                          clear HO222
                                                          clear BK190
                                                          clear BK200
                                                          clear HB
                                                          have HO_7 := n0_
                                                          have HO_191000 := n1_
                                                          have HO_191001 := n2_
                                                          have HL199_0 := n3_
                                                          have HL199_1 := n4_
                                                          have HO208 := n5_
                                                          have HO216 := n6_
                                                          have HO219 := n7_
                                                          have HO222 := n8_
                                                          have BK190 := n9_
                                                          have BK200 := n10_
                                                          have HB := n11_
                                                          clear n0_ n1_ n2_ n3_ n4_ n5_ n6_ n7_ n8_ n9_ n10_ n11_
                                                          (try clear hb)
                                                          (try clear hb2)
                                                          (try clear hk)
                                                          (try clear hi)
                                                          refine hK.out _ _ ⟨(blk_cell BK200.out 0).trans rfl, (blk_cell BK200.out 1).trans rfl, HS2_, HS3_, HS4_⟩ (fun hHeld => ?_)
                                                          clear hK K
                                                          refine norm_ (a' := ?_) ?_ ?_
                                                          rotate_left
                                                          · show Act.put _ (some 142) _ = _
                                                            simp only [Act.put, List.setIfInBounds_toArray, List.set_cons_zero, List.set_cons_succ, i64_w, i32_w]
                                                            rfl
                                                          refine pure_ (i := 24) (N := some 143) (v := ?_) (a' := ?_) #[true, true, true, true, true, true, true, true, true, true, true, true, true, true, true, true, true, true, true, true, true, true, true, true, true, false] rfl rfl (any_of HT_.out (by kernel_rfl)) (fun _ _ _ h => h) (Or.inl ⟨by rfl, ?_⟩) ?_ ?_
                                                          rotate_left
                                                          · intro w'
                                                            go_simp
                                                            with_reducible rfl
                                                          rotate_left
                                                          · simp only [Act.put, List.setIfInBounds_toArray, List.set_cons_zero, List.set_cons_succ, i64_w, i32_w]
                                                            rfl
                                                          refine pure_ (i := 25) (N := some 6) (v := ?_) (a' := ?_) #[true, true, true, true, true, true, true, true, true, true, true, true, true, true, true, true, true, true, true, true, true, true, true, true, true, true] rfl rfl (any_of HT_.out (by kernel_rfl)) (fun _ _ _ h => h) (Or.inl ⟨by rfl, ?_⟩) ?_ ?_
                                                          rotate_left
                                                          · intro w'
                                                            go_simp
                                                            with_reducible rfl
                                                          rotate_left
                                                          · simp only [Act.put, List.setIfInBounds_toArray, List.set_cons_zero, List.set_cons_succ, i64_w, i32_w]
                                                            rfl
                                                          refine done_ (done_of HT_.out (by kernel_rfl)) ?_
                                                          try go_wp2
                                                          go_ret
                                                          exact ⟨by first | rfl | (simp [errW_none, errW_some] <;> rfl) | (simp only [← hji54]; first | rfl | (simp [errW_none, errW_some] <;> rfl)) | (simp [*, errW_none, errW_some] <;> rfl), by repeat (first | (with_reducible first | exact HB.out | apply below_alloc | apply pw_below_drewN | apply below_drew1 | refine below_set ?_ GE190.out | refine below_set ?_ GE200.out) | exact HB.out)⟩
                                                      · rw [if_neg c65] at H
                                                        have c65b0 : ((rd t220 1) == 0) = false := beq_eq_false_iff_ne.mpr c65
                                                        have c65b1 : ((rd t220 1) != 0) = true := bne_iff_ne.mpr c65
                                                        as_aux_lemma =>
                                                          exact absurd ((Option.some.inj H).trans hr_.out) (by decide)
                                                    · rw [if_neg c64] at H
                                                      exact absurd H (by simp)
                                                  · rw [if_neg c63] at H
                                                    have c63b0 : ((rd t220 0) == (rd ((rd_T25 y181 a2).f0) 0)) = false := beq_eq_false_iff_ne.mpr c63
                                                    have c63b1 : ((rd t220 0) != (rd ((rd_T25 y181 a2).f0) 0)) = true := bne_iff_ne.mpr c63
                                                    as_aux_lemma =>
                                                      exact absurd ((Option.some.inj H).trans hr_.out) (by decide)
                                                · rw [if_neg c62] at H
                                                  exact absurd H (by simp)
                                              · rw [if_neg c61] at H
                                                exact absurd H (by simp)
                                            · rw [if_neg c60] at H
                                              have c60b0 : ((t220.length : Int) == 2) = false := beq_eq_false_iff_ne.mpr c60
                                              have c60b1 : ((t220.length : Int) != 2) = true := bne_iff_ne.mpr c60
                                              as_aux_lemma =>
                                                exact absurd ((Option.some.inj H).trans hr_.out) (by decide)
                                          · replace c59 := Bool.eq_false_iff.mpr c59
                                            subst c59
                                            have H1 : (some false) = some r := by rw [if_neg (show ¬ (false = true) by decide)] at H; exact H
                                            clear H
                                            have H := H1
                                            clear H1
                                            as_aux_lemma =>
                                              exact absurd ((Option.some.inj H).trans hr_.out) (by decide)
                                        · rw [if_neg c57] at H
                                          exact absurd H (by simp)
                                      · rw [if_neg c56] at H
                                        exact absurd H (by simp)
                                    · rw [if_neg c55] at H
                                      exact absurd H (by simp)
                                  · rw [if_neg c53] at H
                                    exact absurd H (by simp)
                                · rw [if_neg c52] at H
                                  exact absurd H (by simp)
                              · rw [if_neg c50] at H
                                exact absurd H (by simp)
                            · rw [if_neg c49] at H
                              exact absurd H (by simp)
              · rw [if_neg c20] at H
                exact absurd H (by simp)

/-- THE ONE PURE STATEMENT of dossierlaw9_GapsParts: yours. -/
def dossierlaw9_GapsParts.Pure : Prop := ∀ (a0 : Int) (l1 : List Int) (a2 : Int), (Lit.int .i64 a0).wf = true → l1.length ≤ maxLen → l1.length * 8 ≤ 140737488351232 → (∀ x ∈ l1, (Lit.int .i64 x).wf = true) → (Lit.int .i64 a2).wf = true → ∃ k, dossierlaw9_GapsParts.f k a0 l1 a2 = some true
theorem dossierlaw9_GapsParts.walk (P : dossierlaw9_GapsParts.Pure) (a0 : Int) (a1 : Option Addr) (len1 cap1 : Nat) (z1 : List Int) (a2 : Int) (w : World) (w0 : (Lit.int .i64 a0).wf = true) (w1 : (a1 = none ∧ len1 = 0 ∧ cap1 = 0 ∧ z1 = []) ∨ ∃ x, a1 = some x ∧ len1 ≤ cap1 ∧ cap1 ≤ maxLen ∧ z1.length = cap1 ∧ (∀ i, i < z1.length → w.cell? (x.add i) = some (.int .i64 (z1.getD i 0))) ∧ ∀ n ∈ z1, (Lit.int .i64 n).wf = true) (y1 : len1 * 8 ≤ 140737488351232) (w2 : (Lit.int .i64 a2).wf = true) :
    Calls Try.prog 3 #[.int .i64 a0, .slice a1 len1 cap1, .int .i64 a2] w fun e w' => e = .returned (.bool true) ∧ Below w.heap.size w w' := by
  obtain ⟨l1, rfl, hr1, hm1, hw1, hc1⟩ := ReadsInt.ofRowC w1
  obtain ⟨k, h⟩ := P a0 l1 a2 w0 hm1 y1 hw1 w2
  refine (dossierlaw9_GapsParts.calls k a0 _ _ l1 a2 true w (Kd.C_of_reads (d := (0 : Int)) (h1 := fun _ => rfl) hr1) hc1 (Aside0.mk rfl) h).mono ?_
  rintro e w' ⟨rfl, hd⟩
  exact ⟨rfl, hd⟩


end Go.Proofs.Ytjikkeajhogcdaa.PGapsTells
