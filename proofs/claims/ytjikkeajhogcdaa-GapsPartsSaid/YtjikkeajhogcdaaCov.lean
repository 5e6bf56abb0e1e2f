/- The closure in gaps.hole, IndexFunc and ContainsFunc with it, walked: is a point in one of the boxes; conditions: boxes and point lie in the world. -/
import Derived.Test.YtjikkeajhogcdaaSteps
import Derived.Test.YtjikkeajhogcdaaPGapsTellsx13
namespace Go.Proofs.Ytjikkeajhogcdaa
open Go.RowKit Go.Proofs.YtjikkeajhogcdaaW.PrintWords Go.Proofs.YtjikkeajhogcdaaW.PrintLast Go.Proofs.YtjikkeajhogcdaaW.PrintMore PGapsTells
/-- Is p between lo and hi from i on? -/
def inFrom (lo hi p : List Int) (i : Nat) : Nat → Bool
  | 0 => true
  | n + 1 => if at_ p i < at_ lo i then false else if at_ hi i < at_ p i then false else inFrom lo hi p (i + 1) n
def inB (lo hi p : List Int) : Bool := if p.length = lo.length then inFrom lo hi p 0 p.length else false
theorem rd_at (l : List Int) (i : Nat) : rd l (i : Int) = at_ l i := by simp [rd, at_]
theorem in_l0 (lo hi p : List Int) (h : hi.length = lo.length) (hp : p.length = lo.length) (hn : lo.length ≤ 1000) : ∀ (n i : Nat), i + n = p.length → gaps_In.l0 (n + 1) p (p.length : Int) (i : Int) lo hi = some (inFrom lo hi p i n)
  | 0, i, e => by
    unfold gaps_In.l0
    rw [if_neg (by omega)]
    rfl
  | n + 1, i, e => by
    have ih := in_l0 lo hi p h hp hn n (i + 1) (by omega)
    unfold gaps_In.l0
    rw [if_pos (show (i : Int) < (p.length : Int) by omega), if_pos (by omega), if_pos (by omega), if_pos (by omega)]
    simp only [rd_at]
    unfold inFrom
    by_cases h1 : at_ p i < at_ lo i
    · rw [if_pos h1, if_pos h1]
    · rw [if_neg h1, if_neg h1, if_pos (by omega)]
      by_cases h2 : at_ hi i < at_ p i
      · rw [if_pos h2, if_pos h2]
      · rw [if_neg h2, if_neg h2]
        have hw : wrap64 ((i : Int) + 1) = ((i + 1 : Nat) : Int) := by
          unfold wrap64
          omega
        rw [hw]
        exact ih
theorem inB_model (lo hi p : List Int) (h : hi.length = lo.length) (hn : lo.length ≤ 1000) : ∃ k, gaps_In.f k lo hi p = some (inB lo hi p) := by
  unfold gaps_In.f inB
  by_cases hp : p.length = lo.length
  · refine ⟨p.length + 1, ?_⟩
    rw [if_pos (by omega), if_pos hp]
    exact in_l0 lo hi p h hp hn p.length 0 (by omega)
  · exact ⟨0, by rw [if_neg (by omega), if_neg hp]⟩
/-- gaps.In, by its printed contract. -/
theorem in_calls (A0 : Option Addr) (c0 : Nat) (lo : List Int) (A1 : Option Addr) (c1 : Nat) (hi : List Int) (pA : Option Addr) (pc : Nat) (p : List Int) (w : World)
    (h0 : Kd.C (Kd.int .i64) w A0 lo.length lo) (l0 : lo.length ≤ c0) (h1 : Kd.C (Kd.int .i64) w A1 hi.length hi) (l1 : hi.length ≤ c1) (hp : Kd.C (Kd.int .i64) w pA p.length p) (lp : p.length ≤ pc) (he : hi.length = lo.length) (hn : lo.length ≤ 1000) :
    Calls Try.prog 16 #[.agg #[.slice A0 lo.length c0, .slice A1 hi.length c1], .slice pA p.length pc] w fun e w' => e = .returned (.bool (inB lo hi p)) ∧ Below w.heap.size w w' := by
  obtain ⟨k, hk⟩ := inB_model lo hi p he hn
  exact gaps_In.calls k A0 c0 lo A1 c1 hi pA pc p _ w h0 l0 h1 l1 hp lp hk
/-- The closure: is the point in this box? -/
theorem clo_calls (pb : Nat) (A0 : Option Addr) (c0 : Nat) (lo : List Int) (A1 : Option Addr) (c1 : Nat) (hi : List Int) (pA : Option Addr) (pc : Nat) (p : List Int) (w : World)
    (hb : w.cell? ⟨pb, 0, none⟩ = some (.slice pA p.length pc)) (h0 : Kd.C (Kd.int .i64) w A0 lo.length lo) (l0 : lo.length ≤ c0) (h1 : Kd.C (Kd.int .i64) w A1 hi.length hi) (l1 : hi.length ≤ c1) (hp : Kd.C (Kd.int .i64) w pA p.length p) (lp : p.length ≤ pc) (he : hi.length = lo.length) (hn : lo.length ≤ 1000) :
    Calls Try.prog 23 #[.agg #[.slice A0 lo.length c0, .slice A1 hi.length c1], .pointer (some ⟨pb, 0, none⟩)] w fun e w' => e = .returned (.bool (inB lo hi p)) ∧ Below w.heap.size w w' := by
  have hbw : Below w.heap.size w (w.alloc (.cells #[.slice A0 lo.length c0, .slice A1 hi.length c1] 25)) := (Below.refl _ _).alloc (Nat.le_refl _) _
  have hin := in_calls A0 c0 lo A1 c1 hi pA pc p (w.alloc (.cells #[.slice A0 lo.length c0, .slice A1 hi.length c1] 25)) (Kd.C_below h0 hbw) l0 (Kd.C_below h1 hbw) l1 (Kd.C_below hp hbw) lp he hn
  have HIN := Lib.hid hin
  have HBW := Lib.hid hbw
  have hb' : (w.alloc (.cells #[.slice A0 lo.length c0, .slice A1 hi.length c1] 25)).cell? ⟨pb, 0, none⟩ = some (.slice pA p.length pc) := (hbw.cell (lt_of_cell hb)).trans hb
  clear hin hbw h0 h1 hp hb l0 l1 lp he hn
  go_enter Try.func23, Try.ntmps23
  go_wp2_with fail
  refine HIN.out.mono ?_
  rintro e w1 ⟨rfl, hb1⟩
  have H1 := Lib.hid hb1
  clear hb1
  go_wp2_with fail
  go_ret
  exact ⟨rfl, HBW.out.trans (H1.out.mono HBW.out.size)⟩
/-- Which box is the first that has p? -/
def firstB (p : List Int) : List S25 → Nat → Option Nat
  | [], _ => none
  | b :: r, i => if inB b.f0 b.f1 p = true then some i else firstB p r (i + 1)
def covB (l : List S25) (p : List Int) : Bool := l.any fun b => inB b.f0 b.f1 p
set_option maxHeartbeats 1000000 in
theorem index_calls (A : Option Addr) (c : Nat) (l : List S25) (pb : Nat) (pA : Option Addr) (pc : Nat) (p : List Int) (w : World)
    (hb : w.cell? ⟨pb, 0, none⟩ = some (.slice pA p.length pc)) (hl : Kd.C k25 w A l.length l) (hp : Kd.C (Kd.int .i64) w pA p.length p) (lp : p.length ≤ pc) (hn : l.length ≤ 8) (he : ∀ b ∈ l, b.f1.length = b.f0.length ∧ b.f0.length ≤ 1000) :
    Calls Try.prog 26 #[.slice A l.length c, .func (.func 23) #[] #[.pointer (some ⟨pb, 0, none⟩)]] w fun e w' => ∃ i : Int, e = .returned (.int .i64 i) ∧ decide (0 ≤ i) = covB l p ∧ Below w.heap.size w w' := by
  have HL := Lib.hid hl
  have HP := Lib.hid hp
  have HPB := Lib.hid hb
  have HE := Lib.hid he
  clear hl hp hb he
  go_enter Try.func26, Try.ntmps26
  go_wp2_with fail
  go_loopg [8] l.length (fun g i wr => ∃ k, k ≤ l.length ∧ g + k = l.length ∧ i = .int .i64 k ∧ Below w.heap.size w wr ∧ ∀ b ∈ l.take k, inB b.f0 b.f1 p = false)
  case atStart => exact ⟨0, Nat.zero_le _, rfl, rfl, Below.refl _ _, by simp⟩
  case round =>
    obtain ⟨k, hk, hg, rfl, hbr, hno⟩ := hrel
    have HG := Lib.hid hg
    have HBR := Lib.hid hbr
    have HNO := Lib.hid hno
    clear hg hbr hno
    by_cases hlt : k < l.length
    · obtain ⟨ad, B0, b0, B1, b1, rfl, _, q0, q1, lb0, g0, lb1, g1⟩ := box_at (Kd.C_below HL.out HBR.out) hlt
      have hclo := clo_calls pb B0 b0 (l[k]).f0 B1 b1 (l[k]).f1 pA pc p wr ((HBR.out.cell (lt_of_cell HPB.out)).trans HPB.out) g0 lb0 g1 lb1 (Kd.C_below HP.out HBR.out) lp (HE.out _ (List.getElem_mem hlt)).1 (HE.out _ (List.getElem_mem hlt)).2
      have HCLO := Lib.hid hclo
      clear hclo g0 g1
      go_wp2_with fail
      refine HCLO.out.mono ?_
      rintro e w1 ⟨rfl, hb1⟩
      have H1 := Lib.hid (HBR.out.trans (hb1.mono HBR.out.size))
      clear hb1
      cases hin : inB (l[k]).f0 (l[k]).f1 p with
      | true =>
        have HIN := Lib.hid hin
        clear hin
        go_wp2_with fail
        go_ret
        refine ⟨_, rfl, ?_, H1.out⟩
        have : covB l p = true := List.any_eq_true.2 ⟨l[k], List.getElem_mem hlt, HIN.out⟩
        rw [this]
        simp
      | false =>
        have HIN := Lib.hid hin
        clear hin
        go_wp2_with fail
        go_roundg (l.length - (k + 1))
        case rel =>
          refine ⟨k + 1, by omega, by omega, by go_num, H1.out, fun b hb => ?_⟩
          rw [List.take_add_one, List.getElem?_eq_getElem hlt] at hb
          rcases List.mem_append.1 hb with h | h
          · exact HNO.out b h
          · simp only [Option.toList_some, List.mem_singleton] at h
            rw [h]
            exact HIN.out
        case measure => have := HG.out; omega
    · go_wp2_with fail
      go_ret
      refine ⟨_, rfl, ?_, HBR.out⟩
      have : covB l p = false := by
        unfold covB
        rw [List.any_eq_false]
        intro b hb
        rw [HNO.out b (by rw [List.take_of_length_le (by omega)]; exact hb)]
        decide
      rw [this]
      decide
theorem contains_calls (A : Option Addr) (c : Nat) (l : List S25) (pb : Nat) (pA : Option Addr) (pc : Nat) (p : List Int) (w : World)
    (hb : w.cell? ⟨pb, 0, none⟩ = some (.slice pA p.length pc)) (hl : Kd.C k25 w A l.length l) (hp : Kd.C (Kd.int .i64) w pA p.length p) (lp : p.length ≤ pc) (hn : l.length ≤ 8) (he : ∀ b ∈ l, b.f1.length = b.f0.length ∧ b.f0.length ≤ 1000) :
    Calls Try.prog 22 #[.slice A l.length c, .func (.func 23) #[] #[.pointer (some ⟨pb, 0, none⟩)]] w fun e w' => e = .returned (.bool (covB l p)) ∧ Below w.heap.size w w' := by
  have HI := Lib.hid (index_calls A c l pb pA pc p w hb hl hp lp hn he)
  clear hb hl hp lp he
  go_enter Try.func22, Try.ntmps22
  go_wp2_with fail
  refine HI.out.mono ?_
  rintro e w1 ⟨i, rfl, hi, hb1⟩
  have H1 := Lib.hid hb1
  clear hb1
  go_wp2_with fail
  go_ret
  exact ⟨by rw [← hi]; rfl, H1.out⟩
end Go.Proofs.Ytjikkeajhogcdaa
