-- PRINTED BY print.sh 35421559b90ae4d0a3588c463048766b98c2df88dd9212a6774a882060cdf62d: not written by this session
import Derived.Test.YtoocccjeebmcoaaPLifeEndsx0
import Derived.Test.YtoocccjeebmcoaaPLifeEndsx3
namespace Go.Proofs.Ytoocccjeebmcoaa.PLifeEnds
open Go.RowKit Go.Proofs.YtoocccjeebmcoaaW.PrintWords Go.Proofs.YtoocccjeebmcoaaW.PrintLast Go.Proofs.YtoocccjeebmcoaaW.PrintMore
attribute [local go_sem] max2_int min2_int max_two min_two max_three min_three max_four min_four   -- for this text's walks alone
set_option linter.unusedVariables false
set_option linter.unusedSimpArgs false

/-! ### dossierlaw13_known: function 14 -/
def dossierlaw13_known.f (k : Nat)  : Option (Bool) := (life_Next.f k 2 2 3).bind fun bt108 => (if bt108.2 = true then (if bt108.1 = 3 then ((life_Terminal.f 7).bind fun t110 => (if t110 = true then ((life_Asked.f k 4 7).bind fun t111 => (some t111)) else (some false))) else (some false)) else (some false))
theorem dossierlaw13_known.mono : ∀ k, LeO (dossierlaw13_known.f k ) (dossierlaw13_known.f (k + 1) ) := by
  intro  k
  unfold dossierlaw13_known.f
  repeat' first
      | (with_reducible exact life_Asked.mono _ _ _)
      | (with_reducible exact life_Next.mono _ _ _ _)
      | (with_reducible exact LeO.refl _)
      | (with_reducible exact LeO.none _)
      | (with_reducible refine LeO.ite ?_ ?_)
      | (with_reducible refine LeO.bind ?_ (fun _ => ?_))
      | exact life_Asked.mono _ _ _
      | exact life_Next.mono _ _ _ _
      | exact LeO.none _
      | refine LeO.ite ?_ ?_
      | refine LeO.bind ?_ (fun _ => ?_)
set_option maxHeartbeats 8000000 in
set_option maxRecDepth 100000 in
theorem dossierlaw13_known.calls (k : Nat)  (r : Bool) (w : World) (h : dossierlaw13_known.f k  = some r) :
    Calls Try.prog 14 #[] w fun e w' => e = .returned (.bool r) ∧ Drawn0 w w' := by
  have H : ((life_Next.f k 2 2 3).bind fun bt108 => (if bt108.2 = true then (if bt108.1 = 3 then ((life_Terminal.f 7).bind fun t110 => (if t110 = true then ((life_Asked.f k 4 7).bind fun t111 => (some t111)) else (some false))) else (some false)) else (some false))) = some r := h
  clear h
  replace H := Option.bind_eq_some_iff.mp H
  obtain ⟨⟨t108, t109⟩, A10, H⟩ := H
  replace H : (if t109 = true then (if t108 = 3 then ((life_Terminal.f 7).bind fun t110 => (if t110 = true then ((life_Asked.f k 4 7).bind fun t111 => (some t111)) else (some false))) else (some false)) else (some false)) = some r := H
  have A1 := Aside0.mk A10
  clear A10
  by_cases c2 : t109 = true
  · subst c2
    have H1 : (if t108 = 3 then ((life_Terminal.f 7).bind fun t110 => (if t110 = true then ((life_Asked.f k 4 7).bind fun t111 => (some t111)) else (some false))) else (some false)) = some r := by rw [if_pos rfl] at H; exact H
    clear H
    have H := H1
    clear H1
    by_cases c3 : t108 = 3
    · rw [if_pos c3] at H
      have c3b0 : (t108 == 3) = true := beq_iff_eq.mpr c3
      have c3b1 : (t108 != 3) = false := bne_eq_false_iff_eq.mpr c3
      clear c3
      replace H := Option.bind_eq_some_iff.mp H
      obtain ⟨t110, A40, H⟩ := H
      replace H : (if t110 = true then ((life_Asked.f k 4 7).bind fun t111 => (some t111)) else (some false)) = some r := H
      have A4 := Aside0.mk A40
      clear A40
      by_cases c5 : t110 = true
      · subst c5
        have H1 : ((life_Asked.f k 4 7).bind fun t111 => (some t111)) = some r := by rw [if_pos rfl] at H; exact H
        clear H
        have H := H1
        clear H1
        replace H := Option.bind_eq_some_iff.mp H
        obtain ⟨t111, A60, H⟩ := H
        replace H : (some t111) = some r := H
        have A6 := Aside0.mk A60
        clear A60
        obtain rfl := Option.some.inj H
        go_enter Try.func14, Try.ntmps14
        go_wp2_with (first | ((with_reducible refine gate_callee (f := 8) rfl ?_); refine goesL_ (some 4) rfl rfl Try.func8 (by kernel_rfl) rfl #[.int .i64 2, .int .i64 2, .int .i64 3] rfl (by (try simp only [List.map_toArray, List.map_cons, List.map_nil]); first | done | rfl | (simp only [List.length_drop, List.length_take]; rfl)) ?_; (with_reducible refine (life_Next.calls k 2 2 3 t108 true _ A1.out).mono ?_); rintro e w' ⟨rfl, ⟨nd, rfl⟩⟩; refine ⟨_, rfl, ?_⟩) | (go_at_call 10; (with_reducible refine (life_Terminal.calls 7 true _ A4.out).mono ?_); rintro e w' ⟨rfl, ⟨nd, rfl⟩⟩) | (go_at_call 12; (with_reducible refine (life_Asked.calls k 4 7 t111 _ A6.out).mono ?_); rintro e w' ⟨rfl, ⟨nd, rfl⟩⟩))
        go_ret
        exact ⟨by first | rfl | (simp; done) | (simp [*]; done), by repeat (first | exact Drawn0.refl _ | apply Drawn0.step)⟩
      · replace c5 := Bool.eq_false_iff.mpr c5
        subst c5
        have H1 : (some false) = some r := by rw [if_neg (show ¬ (false = true) by decide)] at H; exact H
        clear H
        have H := H1
        clear H1
        obtain rfl := Option.some.inj H
        go_enter Try.func14, Try.ntmps14
        go_wp2_with (first | ((with_reducible refine gate_callee (f := 8) rfl ?_); refine goesL_ (some 4) rfl rfl Try.func8 (by kernel_rfl) rfl #[.int .i64 2, .int .i64 2, .int .i64 3] rfl (by (try simp only [List.map_toArray, List.map_cons, List.map_nil]); first | done | rfl | (simp only [List.length_drop, List.length_take]; rfl)) ?_; (with_reducible refine (life_Next.calls k 2 2 3 t108 true _ A1.out).mono ?_); rintro e w' ⟨rfl, ⟨nd, rfl⟩⟩; refine ⟨_, rfl, ?_⟩) | (go_at_call 10; (with_reducible refine (life_Terminal.calls 7 false _ A4.out).mono ?_); rintro e w' ⟨rfl, ⟨nd, rfl⟩⟩))
        go_ret
        exact ⟨by first | rfl | (simp; done) | (simp [*]; done), by repeat (first | exact Drawn0.refl _ | apply Drawn0.step)⟩
    · rw [if_neg c3] at H
      have c3b0 : (t108 == 3) = false := beq_eq_false_iff_ne.mpr c3
      have c3b1 : (t108 != 3) = true := bne_iff_ne.mpr c3
      obtain rfl := Option.some.inj H
      go_enter Try.func14, Try.ntmps14
      go_wp2_with (first | ((with_reducible refine gate_callee (f := 8) rfl ?_); refine goesL_ (some 4) rfl rfl Try.func8 (by kernel_rfl) rfl #[.int .i64 2, .int .i64 2, .int .i64 3] rfl (by (try simp only [List.map_toArray, List.map_cons, List.map_nil]); first | done | rfl | (simp only [List.length_drop, List.length_take]; rfl)) ?_; (with_reducible refine (life_Next.calls k 2 2 3 t108 true _ A1.out).mono ?_); rintro e w' ⟨rfl, ⟨nd, rfl⟩⟩; refine ⟨_, rfl, ?_⟩))
      go_ret
      exact ⟨by first | rfl | (simp; done) | (simp [*]; done), by repeat (first | exact Drawn0.refl _ | apply Drawn0.step)⟩
  · replace c2 := Bool.eq_false_iff.mpr c2
    subst c2
    have H1 : (some false) = some r := by rw [if_neg (show ¬ (false = true) by decide)] at H; exact H
    clear H
    have H := H1
    clear H1
    obtain rfl := Option.some.inj H
    go_enter Try.func14, Try.ntmps14
    go_wp2_with (first | ((with_reducible refine gate_callee (f := 8) rfl ?_); refine goesL_ (some 4) rfl rfl Try.func8 (by kernel_rfl) rfl #[.int .i64 2, .int .i64 2, .int .i64 3] rfl (by (try simp only [List.map_toArray, List.map_cons, List.map_nil]); first | done | rfl | (simp only [List.length_drop, List.length_take]; rfl)) ?_; (with_reducible refine (life_Next.calls k 2 2 3 t108 false _ A1.out).mono ?_); rintro e w' ⟨rfl, ⟨nd, rfl⟩⟩; refine ⟨_, rfl, ?_⟩))
    go_ret
    exact ⟨by first | rfl | (simp; done) | (simp [*]; done), by repeat (first | exact Drawn0.refl _ | apply Drawn0.step)⟩

/-! ### dossierlaw13_LifeEnds: function 4 -/
def dossierlaw13_LifeEnds.j0 : Nat → Int → Int → Int → Int → Bool → Bool → Option (Bool)
  | 0, _, _, _, _, _, _ => none
  | k + 1, x0, x1, x2, x7, x8, x20 => if x20 = true then (some false) else (if x2 = 1 then (if x1 = 0 then (if x0 ≥ 1 then (if (x8 == (decide (x0 ≤ 4))) = true then ((dossierlaw13_known.f k).bind fun t115 => (some t115)) else (some false)) else (if (x8 == false) = true then ((dossierlaw13_known.f k).bind fun t116 => (some t116)) else (some false))) else (if (x8 == false) = true then ((dossierlaw13_known.f k).bind fun t117 => (some t117)) else (some false))) else (if x8 = true then (if x1 ≥ 1 then (if x7 ≥ 1 then (if x7 ≤ 7 then (if x7 = x1 then (some false) else ((dossierlaw13_known.f k).bind fun t118 => (some t118))) else (some false)) else (some false)) else (some false)) else (if x7 = 0 then ((dossierlaw13_known.f k).bind fun t119 => (some t119)) else (some false))))
def dossierlaw13_LifeEnds.f (k : Nat) (a0 : Int) (a1 : Int) (a2 : Int) : Option (Bool) := (life_Next.f k a0 a1 a2).bind fun bt112 => ((life_Terminal.f a1).bind fun t114 => (if t114 = true then (dossierlaw13_LifeEnds.j0 k a0 a1 a2 bt112.1 bt112.2 bt112.2) else (dossierlaw13_LifeEnds.j0 k a0 a1 a2 bt112.1 bt112.2 false)))
theorem dossierlaw13_LifeEnds.mono_l : ∀ k, (∀ y0 y1 y2 y3 y4 y5, LeO (dossierlaw13_LifeEnds.j0 k y0 y1 y2 y3 y4 y5) (dossierlaw13_LifeEnds.j0 (k + 1) y0 y1 y2 y3 y4 y5))
  | 0 => fun _ _ _ _ _ _ r h => by simp [dossierlaw13_LifeEnds.j0] at h
  | k + 1 => by
    have ih0 := dossierlaw13_LifeEnds.mono_l k
    · intro y0 y1 y2 y3 y4 y5
      unfold dossierlaw13_LifeEnds.j0
      repeat' first
      | (with_reducible exact ih0 _ _ _ _ _ _)
      | (with_reducible exact dossierlaw13_known.mono _)
      | (with_reducible exact life_Next.mono _ _ _ _)
      | (with_reducible exact LeO.refl _)
      | (with_reducible exact LeO.none _)
      | (with_reducible refine LeO.ite ?_ ?_)
      | (with_reducible refine LeO.bind ?_ (fun _ => ?_))
      | exact ih0 _ _ _ _ _ _
      | exact dossierlaw13_known.mono _
      | exact life_Next.mono _ _ _ _
      | exact LeO.none _
      | refine LeO.ite ?_ ?_
      | refine LeO.bind ?_ (fun _ => ?_)
theorem dossierlaw13_LifeEnds.mono : ∀ a0 a1 a2 k, LeO (dossierlaw13_LifeEnds.f k a0 a1 a2) (dossierlaw13_LifeEnds.f (k + 1) a0 a1 a2) := by
  intro a0 a1 a2 k
  have ih0 := dossierlaw13_LifeEnds.mono_l k
  unfold dossierlaw13_LifeEnds.f
  repeat' first
      | (with_reducible exact ih0 _ _ _ _ _ _)
      | (with_reducible exact dossierlaw13_known.mono _)
      | (with_reducible exact life_Next.mono _ _ _ _)
      | (with_reducible exact LeO.refl _)
      | (with_reducible exact LeO.none _)
      | (with_reducible refine LeO.ite ?_ ?_)
      | (with_reducible refine LeO.bind ?_ (fun _ => ?_))
      | exact ih0 _ _ _ _ _ _
      | exact dossierlaw13_known.mono _
      | exact life_Next.mono _ _ _ _
      | exact LeO.none _
      | refine LeO.ite ?_ ?_
      | refine LeO.bind ?_ (fun _ => ?_)
set_option maxHeartbeats 8000000 in
set_option maxRecDepth 100000 in
theorem dossierlaw13_LifeEnds.calls (k : Nat) (a0 : Int) (a1 : Int) (a2 : Int) (r : Bool) (w : World) (h : dossierlaw13_LifeEnds.f k a0 a1 a2 = some r) :
    Calls Try.prog 4 #[.int .i64 a0, .int .i64 a1, .int .i64 a2] w fun e w' => e = .returned (.bool r) ∧ Drawn0 w w' := by
  have H : ((life_Next.f k a0 a1 a2).bind fun bt112 => ((life_Terminal.f a1).bind fun t114 => (if t114 = true then (dossierlaw13_LifeEnds.j0 k a0 a1 a2 bt112.1 bt112.2 bt112.2) else (dossierlaw13_LifeEnds.j0 k a0 a1 a2 bt112.1 bt112.2 false)))) = some r := h
  clear h
  replace H := Option.bind_eq_some_iff.mp H
  obtain ⟨⟨t112, t113⟩, A40, H⟩ := H
  replace H : ((life_Terminal.f a1).bind fun t114 => (if t114 = true then (dossierlaw13_LifeEnds.j0 k a0 a1 a2 t112 t113 t113) else (dossierlaw13_LifeEnds.j0 k a0 a1 a2 t112 t113 false))) = some r := H
  have A4 := Aside0.mk A40
  clear A40
  have HC5 := Aside0.mk H
  clear H
  go_enter Try.func4, Try.ntmps4
  go_upto_region 2 with (first | ((with_reducible refine gate_callee (f := 8) rfl ?_); refine goesL_ (some 13) rfl rfl Try.func8 (by kernel_rfl) rfl #[.int .i64 a0, .int .i64 a1, .int .i64 a2] rfl (by (try simp only [List.map_toArray, List.map_cons, List.map_nil]); first | done | rfl | (simp only [List.length_drop, List.length_take]; rfl)) ?_; (with_reducible refine (life_Next.calls k a0 a1 a2 t112 t113 _ A4.out).mono ?_); rintro e w' ⟨rfl, ⟨nd, rfl⟩⟩; refine ⟨_, rfl, ?_⟩))
  (try simp only [Act.put, List.setIfInBounds_toArray, List.set_cons_zero, List.set_cons_succ])
  go_cut [20] (fun v20 wc => ∃ (kq : Nat) (x20_4 : Bool), v20 = .bool x20_4 ∧ Aside0 (dossierlaw13_LifeEnds.j0 kq a0 a1 a2 t112 t113 x20_4 = some r) ∧ Aside0 (kq ≤ k) ∧ Drawn0 w wc)
  case first =>
    have H := HC5.out
    clear HC5
    replace H := Option.bind_eq_some_iff.mp H
    obtain ⟨t114, A60, H⟩ := H
    replace H : (if t114 = true then (dossierlaw13_LifeEnds.j0 k a0 a1 a2 t112 t113 t113) else (dossierlaw13_LifeEnds.j0 k a0 a1 a2 t112 t113 false)) = some r := H
    have A6 := Aside0.mk A60
    clear A60
    by_cases c7 : t114 = true
    · subst c7
      have H1 : (dossierlaw13_LifeEnds.j0 k a0 a1 a2 t112 t113 t113) = some r := by rw [if_pos rfl] at H; exact H
      clear H
      have H := H1
      clear H1
      have H' := Aside0.mk H
      clear H
      go_wp2_with (first | ((with_reducible refine gate_callee (f := 10) rfl ?_); refine goesL_ (some 17) rfl rfl Try.func10 (by kernel_rfl) rfl #[.int .i64 a1] rfl (by (try simp only [List.map_toArray, List.map_cons, List.map_nil]); first | done | rfl | (simp only [List.length_drop, List.length_take]; rfl)) ?_; (with_reducible refine (life_Terminal.calls a1 true _ A6.out).mono ?_); rintro e w' ⟨rfl, ⟨nd, rfl⟩⟩; refine ⟨_, rfl, ?_⟩))
      go_meet
      case rel => exact ⟨_, (t113), (by first | rfl | (simp; done) | (simp [*]; done)), H', ⟨by first | omega | exact Nat.le_refl _⟩, by repeat (first | exact Drawn0.refl _ | apply Drawn0.step)⟩
    · replace c7 := Bool.eq_false_iff.mpr c7
      subst c7
      have H1 : (dossierlaw13_LifeEnds.j0 k a0 a1 a2 t112 t113 false) = some r := by rw [if_neg (show ¬ (false = true) by decide)] at H; exact H
      clear H
      have H := H1
      clear H1
      have H' := Aside0.mk H
      clear H
      go_wp2_with (first | ((with_reducible refine gate_callee (f := 10) rfl ?_); refine goesL_ (some 17) rfl rfl Try.func10 (by kernel_rfl) rfl #[.int .i64 a1] rfl (by (try simp only [List.map_toArray, List.map_cons, List.map_nil]); first | done | rfl | (simp only [List.length_drop, List.length_take]; rfl)) ?_; (with_reducible refine (life_Terminal.calls a1 false _ A6.out).mono ?_); rintro e w' ⟨rfl, ⟨nd, rfl⟩⟩; refine ⟨_, rfl, ?_⟩))
      go_meet
      case rel => exact ⟨_, (false), (by first | rfl | (simp; done) | (simp [*]; done)), H', ⟨by first | omega | exact Nat.le_refl _⟩, by repeat (first | exact Drawn0.refl _ | apply Drawn0.step)⟩
  case rest =>
    clear HC5
    try clear c1
    try clear p2
    try clear c4
    try clear c7
    obtain ⟨kq, x20_4, rfl, HA, HJ4, ⟨mc4, rfl⟩⟩ := hcut
    cases kq with
    | zero => exact absurd HA.out (by simp [dossierlaw13_LifeEnds.j0])
    | succ kj4 =>
      have H := HA.out
      clear HA
      simp only [dossierlaw13_LifeEnds.j0] at H
      by_cases c8 : x20_4 = true
      · subst c8
        have H1 : (some false) = some r := by rw [if_pos rfl] at H; exact H
        clear H
        have H := H1
        clear H1
        obtain rfl := Option.some.inj H
        go_wp2
        go_ret
        exact ⟨by first | rfl | (simp; done) | (simp [*]; done), by repeat (first | exact Drawn0.refl _ | apply Drawn0.step)⟩
      · replace c8 := Bool.eq_false_iff.mpr c8
        subst c8
        have H1 : (if a2 = 1 then (if a1 = 0 then (if a0 ≥ 1 then (if (t113 == (decide (a0 ≤ 4))) = true then ((dossierlaw13_known.f kj4).bind fun t115 => (some t115)) else (some false)) else (if (t113 == false) = true then ((dossierlaw13_known.f kj4).bind fun t116 => (some t116)) else (some false))) else (if (t113 == false) = true then ((dossierlaw13_known.f kj4).bind fun t117 => (some t117)) else (some false))) else (if t113 = true then (if a1 ≥ 1 then (if t112 ≥ 1 then (if t112 ≤ 7 then (if t112 = a1 then (some false) else ((dossierlaw13_known.f kj4).bind fun t118 => (some t118))) else (some false)) else (some false)) else (some false)) else (if t112 = 0 then ((dossierlaw13_known.f kj4).bind fun t119 => (some t119)) else (some false)))) = some r := by rw [if_neg (show ¬ (false = true) by decide)] at H; exact H
        clear H
        have H := H1
        clear H1
        by_cases c9 : a2 = 1
        · rw [if_pos c9] at H
          have c9b0 : (a2 == 1) = true := beq_iff_eq.mpr c9
          have c9b1 : (a2 != 1) = false := bne_eq_false_iff_eq.mpr c9
          clear c9
          by_cases c10 : a1 = 0
          · rw [if_pos c10] at H
            have c10b0 : (a1 == 0) = true := beq_iff_eq.mpr c10
            have c10b1 : (a1 != 0) = false := bne_eq_false_iff_eq.mpr c10
            clear c10
            by_cases c11 : a0 ≥ 1
            · rw [if_pos c11] at H
              have c11b0 : decide (1 ≤ a0) = true := decide_eq_true c11
              clear c11
              by_cases c12 : (t113 == (decide (a0 ≤ 4))) = true
              · rw [if_pos c12] at H
                have c12b0 : (t113 == (decide (a0 ≤ 4))) = true := c12
                (try (have c12b1 : decide (t113 = (decide (a0 ≤ 4))) = true := by simpa using c12))
                (try (have c12b2 : (t113 == (decide (a0 ≤ 4))) = true := by simpa using c12))
                clear c12
                replace H := Option.bind_eq_some_iff.mp H
                obtain ⟨t115, A130, H⟩ := H
                replace H : (some t115) = some r := H
                have A13 := Aside0.mk A130
                clear A130
                obtain rfl := Option.some.inj H
                go_wp2_with (first | (go_at_call 14; (with_reducible refine (dossierlaw13_known.calls kj4  t115 _ A13.out).mono ?_); rintro e w' ⟨rfl, ⟨nd, rfl⟩⟩))
                go_ret
                exact ⟨by first | rfl | (simp; done) | (simp [*]; done), by repeat (first | exact Drawn0.refl _ | apply Drawn0.step)⟩
              · rw [if_neg c12] at H
                have c12b0 : (t113 == (decide (a0 ≤ 4))) = false := by simpa using c12
                (try (have c12b1 : decide (t113 = (decide (a0 ≤ 4))) = false := by simpa using c12))
                (try (have c12b2 : (t113 == (decide (a0 ≤ 4))) = false := by simpa using c12))
                (try (have c12b3 : ¬ (t113 = (decide (a0 ≤ 4))) := by simpa using c12))
                clear c12
                obtain rfl := Option.some.inj H
                go_wp2
                go_ret
                exact ⟨by first | rfl | (simp; done) | (simp [*]; done), by repeat (first | exact Drawn0.refl _ | apply Drawn0.step)⟩
            · rw [if_neg c11] at H
              have c11b0 : decide (1 ≤ a0) = false := decide_eq_false c11
              clear c11
              by_cases c14 : (t113 == false) = true
              · rw [if_pos c14] at H
                have c14b0 : (t113 == false) = true := c14
                (try (have c14b1 : decide (t113 = false) = true := by simpa using c14))
                (try (have c14b2 : (t113 == false) = true := by simpa using c14))
                clear c14
                replace H := Option.bind_eq_some_iff.mp H
                obtain ⟨t116, A150, H⟩ := H
                replace H : (some t116) = some r := H
                have A15 := Aside0.mk A150
                clear A150
                obtain rfl := Option.some.inj H
                go_wp2_with (first | (go_at_call 14; (with_reducible refine (dossierlaw13_known.calls kj4  t116 _ A15.out).mono ?_); rintro e w' ⟨rfl, ⟨nd, rfl⟩⟩))
                go_ret
                exact ⟨by first | rfl | (simp; done) | (simp [*]; done), by repeat (first | exact Drawn0.refl _ | apply Drawn0.step)⟩
              · rw [if_neg c14] at H
                have c14b0 : (t113 == false) = false := by simpa using c14
                (try (have c14b1 : decide (t113 = false) = false := by simpa using c14))
                (try (have c14b2 : (t113 == false) = false := by simpa using c14))
                (try (have c14b3 : ¬ (t113 = false) := by simpa using c14))
                clear c14
                obtain rfl := Option.some.inj H
                go_wp2
                go_ret
                exact ⟨by first | rfl | (simp; done) | (simp [*]; done), by repeat (first | exact Drawn0.refl _ | apply Drawn0.step)⟩
          · rw [if_neg c10] at H
            have c10b0 : (a1 == 0) = false := beq_eq_false_iff_ne.mpr c10
            have c10b1 : (a1 != 0) = true := bne_iff_ne.mpr c10
            by_cases c16 : (t113 == false) = true
            · rw [if_pos c16] at H
              have c16b0 : (t113 == false) = true := c16
              (try (have c16b1 : decide (t113 = false) = true := by simpa using c16))
              (try (have c16b2 : (t113 == false) = true := by simpa using c16))
              clear c16
              replace H := Option.bind_eq_some_iff.mp H
              obtain ⟨t117, A170, H⟩ := H
              replace H : (some t117) = some r := H
              have A17 := Aside0.mk A170
              clear A170
              obtain rfl := Option.some.inj H
              go_wp2_with (first | (go_at_call 14; (with_reducible refine (dossierlaw13_known.calls kj4  t117 _ A17.out).mono ?_); rintro e w' ⟨rfl, ⟨nd, rfl⟩⟩))
              go_ret
              exact ⟨by first | rfl | (simp; done) | (simp [*]; done), by repeat (first | exact Drawn0.refl _ | apply Drawn0.step)⟩
            · rw [if_neg c16] at H
              have c16b0 : (t113 == false) = false := by simpa using c16
              (try (have c16b1 : decide (t113 = false) = false := by simpa using c16))
              (try (have c16b2 : (t113 == false) = false := by simpa using c16))
              (try (have c16b3 : ¬ (t113 = false) := by simpa using c16))
              clear c16
              obtain rfl := Option.some.inj H
              go_wp2
              go_ret
              exact ⟨by first | rfl | (simp; done) | (simp [*]; done), by repeat (first | exact Drawn0.refl _ | apply Drawn0.step)⟩
        · rw [if_neg c9] at H
          have c9b0 : (a2 == 1) = false := beq_eq_false_iff_ne.mpr c9
          have c9b1 : (a2 != 1) = true := bne_iff_ne.mpr c9
          by_cases c18 : t113 = true
          · subst c18
            have H1 : (if a1 ≥ 1 then (if t112 ≥ 1 then (if t112 ≤ 7 then (if t112 = a1 then (some false) else ((dossierlaw13_known.f kj4).bind fun t118 => (some t118))) else (some false)) else (some false)) else (some false)) = some r := by rw [if_pos rfl] at H; exact H
            clear H
            have H := H1
            clear H1
            by_cases c19 : a1 ≥ 1
            · rw [if_pos c19] at H
              have c19b0 : decide (1 ≤ a1) = true := decide_eq_true c19
              clear c19
              by_cases c20 : t112 ≥ 1
              · rw [if_pos c20] at H
                have c20b0 : decide (1 ≤ t112) = true := decide_eq_true c20
                clear c20
                by_cases c21 : t112 ≤ 7
                · rw [if_pos c21] at H
                  have c21b0 : decide (t112 ≤ 7) = true := decide_eq_true c21
                  clear c21
                  by_cases c22 : t112 = a1
                  · rw [if_pos c22] at H
                    have c22b0 : (t112 == a1) = true := beq_iff_eq.mpr c22
                    have c22b1 : (t112 != a1) = false := bne_eq_false_iff_eq.mpr c22
                    clear c22
                    obtain rfl := Option.some.inj H
                    go_wp2
                    go_ret
                    exact ⟨by first | rfl | (simp; done) | (simp [*]; done), by repeat (first | exact Drawn0.refl _ | apply Drawn0.step)⟩
                  · rw [if_neg c22] at H
                    have c22b0 : (t112 == a1) = false := beq_eq_false_iff_ne.mpr c22
                    have c22b1 : (t112 != a1) = true := bne_iff_ne.mpr c22
                    replace H := Option.bind_eq_some_iff.mp H
                    obtain ⟨t118, A230, H⟩ := H
                    replace H : (some t118) = some r := H
                    have A23 := Aside0.mk A230
                    clear A230
                    obtain rfl := Option.some.inj H
                    go_wp2_with (first | (go_at_call 14; (with_reducible refine (dossierlaw13_known.calls kj4  t118 _ A23.out).mono ?_); rintro e w' ⟨rfl, ⟨nd, rfl⟩⟩))
                    go_ret
                    exact ⟨by first | rfl | (simp; done) | (simp [*]; done), by repeat (first | exact Drawn0.refl _ | apply Drawn0.step)⟩
                · rw [if_neg c21] at H
                  have c21b0 : decide (t112 ≤ 7) = false := decide_eq_false c21
                  clear c21
                  obtain rfl := Option.some.inj H
                  go_wp2
                  go_ret
                  exact ⟨by first | rfl | (simp; done) | (simp [*]; done), by repeat (first | exact Drawn0.refl _ | apply Drawn0.step)⟩
              · rw [if_neg c20] at H
                have c20b0 : decide (1 ≤ t112) = false := decide_eq_false c20
                clear c20
                obtain rfl := Option.some.inj H
                go_wp2
                go_ret
                exact ⟨by first | rfl | (simp; done) | (simp [*]; done), by repeat (first | exact Drawn0.refl _ | apply Drawn0.step)⟩
            · rw [if_neg c19] at H
              have c19b0 : decide (1 ≤ a1) = false := decide_eq_false c19
              clear c19
              obtain rfl := Option.some.inj H
              go_wp2
              go_ret
              exact ⟨by first | rfl | (simp; done) | (simp [*]; done), by repeat (first | exact Drawn0.refl _ | apply Drawn0.step)⟩
          · replace c18 := Bool.eq_false_iff.mpr c18
            subst c18
            have H1 : (if t112 = 0 then ((dossierlaw13_known.f kj4).bind fun t119 => (some t119)) else (some false)) = some r := by rw [if_neg (show ¬ (false = true) by decide)] at H; exact H
            clear H
            have H := H1
            clear H1
            by_cases c24 : t112 = 0
            · rw [if_pos c24] at H
              have c24b0 : (t112 == 0) = true := beq_iff_eq.mpr c24
              have c24b1 : (t112 != 0) = false := bne_eq_false_iff_eq.mpr c24
              clear c24
              replace H := Option.bind_eq_some_iff.mp H
              obtain ⟨t119, A250, H⟩ := H
              replace H : (some t119) = some r := H
              have A25 := Aside0.mk A250
              clear A250
              obtain rfl := Option.some.inj H
              go_wp2_with (first | (go_at_call 14; (with_reducible refine (dossierlaw13_known.calls kj4  t119 _ A25.out).mono ?_); rintro e w' ⟨rfl, ⟨nd, rfl⟩⟩))
              go_ret
              exact ⟨by first | rfl | (simp; done) | (simp [*]; done), by repeat (first | exact Drawn0.refl _ | apply Drawn0.step)⟩
            · rw [if_neg c24] at H
              have c24b0 : (t112 == 0) = false := beq_eq_false_iff_ne.mpr c24
              have c24b1 : (t112 != 0) = true := bne_iff_ne.mpr c24
              obtain rfl := Option.some.inj H
              go_wp2
              go_ret
              exact ⟨by first | rfl | (simp; done) | (simp [*]; done), by repeat (first | exact Drawn0.refl _ | apply Drawn0.step)⟩

/-- THE ONE PURE STATEMENT of dossierlaw13_LifeEnds: yours. -/
def dossierlaw13_LifeEnds.Pure : Prop := ∀ (a0 : Int) (a1 : Int) (a2 : Int), (Lit.int .i64 a0).wf = true → (Lit.int .i64 a1).wf = true → (Lit.int .i64 a2).wf = true → ∃ k, dossierlaw13_LifeEnds.f k a0 a1 a2 = some true
theorem dossierlaw13_LifeEnds.walk (P : dossierlaw13_LifeEnds.Pure) (a0 : Int) (a1 : Int) (a2 : Int) (w : World) (w0 : (Lit.int .i64 a0).wf = true) (w1 : (Lit.int .i64 a1).wf = true) (w2 : (Lit.int .i64 a2).wf = true) :
    Calls Try.prog 4 #[.int .i64 a0, .int .i64 a1, .int .i64 a2] w fun e w' => e = .returned (.bool true) ∧ Below w.heap.size w w' := by
  obtain ⟨k, h⟩ := P a0 a1 a2 w0 w1 w2
  refine (dossierlaw13_LifeEnds.calls k a0 a1 a2 true w h).mono ?_
  rintro e w' ⟨rfl, hd⟩
  exact ⟨rfl, hd.below⟩

end Go.Proofs.Ytoocccjeebmcoaa.PLifeEnds
