/- Tables, rules, sentries, items, models looked at, walked. Conditions stand in each part's own head. -/
import Derived.Test.YtaddhackggbdkaaHsH
import Derived.Test.YtaddhackggbdkaaHsB
import Derived.Test.YtaddhackggbdkaaHsI
import Derived.Test.YtaddhackggbdkaaHsF
/-! A table's rules looked at: the document's answer comes to an end; condition: the table lies in the world. -/
namespace Go.Proofs.Ytaddhackggbdkaa
open Go.RowKit
set_option maxRecDepth 100000
set_option linter.unusedSimpArgs false
/-- A table's cells. -/
def Tab.v (x : Tab) : Value := .agg #[.string x.h, .slice x.A0 x.l0 x.c0, .slice x.A1 x.l1 x.c1, .slice x.A2 x.l2 x.c2, .bool x.b, .int .i64 x.k, .bool x.q, .int .i64 x.m, .int .i64 x.s, .string x.t, .slice x.A3 x.l3 x.c3]
set_option maxHeartbeats 4000000 in
theorem rules_any (W : World) (x : Tab) (hx : TabOk W x) (w : World) (hw : Below W.heap.size W w) : Calls Try.prog 55 #[x.v] w fun e w' => RetB e ∧ Below w.heap.size w w' := by
  have HR : Hid (Row W (RuleOk W) 7 x.A1 x.l1 x.c1) := Lib.hid hx.rules
  have hle := HR.out.le
  have hle0 := hx.ins.le
  have H1 : Hid (Below w.heap.size w (w.alloc (.cells #[.string x.h, .slice x.A0 x.l0 x.c0, .slice x.A1 x.l1 x.c1, .slice x.A2 x.l2 x.c2, .bool x.b, .int .i64 x.k, .bool x.q, .int .i64 x.m, .int .i64 x.s, .string x.t, .slice x.A3 x.l3 x.c3] 86)) ∧ (w.alloc (.cells #[.string x.h, .slice x.A0 x.l0 x.c0, .slice x.A1 x.l1 x.c1, .slice x.A2 x.l2 x.c2, .bool x.b, .int .i64 x.k, .bool x.q, .int .i64 x.m, .int .i64 x.s, .string x.t, .slice x.A3 x.l3 x.c3] 86)).heap[w.heap.size]? = some (.cells #[.string x.h, .slice x.A0 x.l0 x.c0, .slice x.A1 x.l1 x.c1, .slice x.A2 x.l2 x.c2, .bool x.b, .int .i64 x.k, .bool x.q, .int .i64 x.m, .int .i64 x.s, .string x.t, .slice x.A3 x.l3 x.c3] 86 (0, 0)) ∧ Below W.heap.size W (w.alloc (.cells #[.string x.h, .slice x.A0 x.l0 x.c0, .slice x.A1 x.l1 x.c1, .slice x.A2 x.l2 x.c2, .bool x.b, .int .i64 x.k, .bool x.q, .int .i64 x.m, .int .i64 x.s, .string x.t, .slice x.A3 x.l3 x.c3] 86))) :=
    Lib.hid ⟨(Below.refl _ _).alloc (Nat.le_refl _) _, heap_alloc_new w _, hw.alloc hw.size _⟩
  clear hx hw
  unfold Tab.v
  go_enter Try.func55, Try.ntmps55
  go_upto_block 0 with fail
  generalize w.alloc (.cells #[.string x.h, .slice x.A0 x.l0 x.c0, .slice x.A1 x.l1 x.c1, .slice x.A2 x.l2 x.c2, .bool x.b, .int .i64 x.k, .bool x.q, .int .i64 x.m, .int .i64 x.s, .string x.t, .slice x.A3 x.l3 x.c3] 86) = W1 at H1 ⊢
  go_wp2_with fail
  go_loopg [3] x.l1 (fun g i wr => ∃ j : Nat, j ≤ x.l1 ∧ g + j = x.l1 ∧ i = .int .i64 j ∧ Below W1.heap.size W1 wr)
  case atStart => exact ⟨0, Nat.zero_le _, rfl, rfl, Below.refl _ _⟩
  case round =>
    obtain ⟨j, hj, hg, rfl, hb⟩ := hrel
    have HG := Lib.hid hg
    have m2 := cell_of (stays H1.out.2.1 hb) 2
    have HB := Lib.hid hb
    clear hb hg
    by_cases hlt : j < x.l1
    rotate_left
    · go_wp2_with fail
      go_ret
      exact ⟨retB _, H1.out.1.trans (HB.out.mono H1.out.1.size)⟩
    obtain ⟨ad, A4, l4, c4, n, k, b, m, s, t, A5, l5, c5, e, hs, hv, hc⟩ := HR.out.rule hlt
    rw [e] at m2
    clear e
    obtain ⟨d0, d1, d2, d3, d4, d5, d6⟩ := hc wr (below_on H1.out.2.2 HB.out)
    have HV := Lib.hid hv
    have HS := Lib.hid hs
    have hl4 := hs.le
    have H6 : Hid (Below W1.heap.size W1 (wr.alloc (.cells #[.slice A4 l4 c4, .int .i64 k, .bool b, .int .i64 m, .int .i64 s, .string t, .slice A5 l5 c5] 89)) ∧ (wr.alloc (.cells #[.slice A4 l4 c4, .int .i64 k, .bool b, .int .i64 m, .int .i64 s, .string t, .slice A5 l5 c5] 89)).heap[wr.heap.size]? = some (.cells #[.slice A4 l4 c4, .int .i64 k, .bool b, .int .i64 m, .int .i64 s, .string t, .slice A5 l5 c5] 89 (0, 0)) ∧ Below W.heap.size W (wr.alloc (.cells #[.slice A4 l4 c4, .int .i64 k, .bool b, .int .i64 m, .int .i64 s, .string t, .slice A5 l5 c5] 89))) :=
      Lib.hid ⟨HB.out.alloc HB.out.size _, heap_alloc_new wr _, (below_on H1.out.2.2 HB.out).alloc (below_on H1.out.2.2 HB.out).size _⟩
    clear hc hv hs
    go_upto_region 5 with fail
    clear m2 d0 d1 d2 d3 d4 d5 d6 HB
    generalize hwb : wr = wb at *
    clear hwb
    generalize wb.alloc (.cells #[.slice A4 l4 c4, .int .i64 k, .bool b, .int .i64 m, .int .i64 s, .string t, .slice A5 l5 c5] 89) = W6 at H6 ⊢
    go_cut [39] from 9 to 58 (fun s39 wx => (∃ b, s39 = .bool b) ∧ Below W6.heap.size W6 wx)
    case first =>
      have e0 := cell_of H6.out.2.1 0
      have e1 := cell_of H6.out.2.1 1
      have e2 := cell_of H6.out.2.1 2
      have e3 := cell_of H6.out.2.1 3
      have e4 := cell_of H6.out.2.1 4
      have e5 := cell_of H6.out.2.1 5
      have e6 := cell_of H6.out.2.1 6
      have g1 := cell_of (stays H1.out.2.1 H6.out.1) 1
      have HI := Lib.hid (is_any W (n + 1) k b m s t A5 l5 c5 HV.out W6 H6.out.2.2)
      go_wp2_with fail
      all_goals first
      | (go_meet; exact ⟨⟨_, rfl⟩, Below.refl _ _⟩)
      | (refine HI.out.mono ?_
         rintro e' w7 ⟨⟨z, rfl⟩, hb7⟩
         have q1 := cell_of (stays H6.out.2.1 hb7) 1
         have HB7 := Lib.hid hb7
         clear hb7 e0 e1 e2 e3 e4 e5 e6 g1 HI
         cases z
         all_goals
           go_wp2_with fail
           go_meet
           exact ⟨⟨_, rfl⟩, HB7.out⟩)
    case rest =>
      obtain ⟨⟨b', rfl⟩, hb⟩ := hcut
      have HB7 := Lib.hid hb
      clear hb
      cases b'
      rotate_left
      · go_wp2_with fail
        go_ret
        exact ⟨retB _, H1.out.1.trans ((H6.out.1.trans (HB7.out.mono H6.out.1.size)).mono H1.out.1.size)⟩
      go_wp2_with fail
      go_loopg [5] l4 (fun g i wr => ∃ j : Nat, j ≤ l4 ∧ g + j = l4 ∧ i = .int .i64 j ∧ Below W6.heap.size W6 wr)
      case atStart => exact ⟨0, Nat.zero_le _, by omega, rfl, HB7.out⟩
      case round =>
        obtain ⟨q, hq, hg, rfl, hb⟩ := hrel
        have HGq := Lib.hid hg
        have f0 := cell_of (stays H6.out.2.1 hb) 0
        have HBq := Lib.hid hb
        clear hb hg
        by_cases hltq : q < l4
        rotate_left
        · go_wp2_with fail
          go_roundg (x.l1 - (j + 1))
          case rel => exact ⟨j + 1, by omega, by omega, by first | rfl | rw [w64 (by omega) hle], H6.out.1.trans (HBq.out.mono H6.out.1.size)⟩
          case measure => have := HG.out; omega
        obtain ⟨ad2, s', e', hs', hc'⟩ := HS.out.str hltq
        have g0 := hc' wr (below_on H6.out.2.2 HBq.out)
        rw [e'] at f0
        clear hc' hs' e'
        go_wp2_with fail
        refine (parse7_any s' wr).mono ?_
        rintro e'' w8 ⟨⟨A', n', c', p', f', rfl⟩, hb8⟩
        have HB8 := Lib.hid (below_on HBq.out hb8)
        clear hb8 f0 g0
        by_cases hf : f' = 0
        · subst hf
          go_wp2_with fail
          go_roundg (l4 - (q + 1))
          case rel => exact ⟨q + 1, by omega, by omega, by first | rfl | rw [w64 (by omega) hl4], HB8.out⟩
          case measure => have := HGq.out; omega
        · go_wp2_with fail
          go_ret
          exact ⟨retB _, H1.out.1.trans ((H6.out.1.trans (HB8.out.mono H6.out.1.size)).mono H1.out.1.size)⟩
end Go.Proofs.Ytaddhackggbdkaa
/-! A table looked at: the document's answer comes to an end; condition: it lies in the world. -/
namespace Go.Proofs.Ytaddhackggbdkaa
open Go.RowKit
set_option maxRecDepth 100000
set_option linter.unusedSimpArgs false
set_option maxHeartbeats 4000000 in
theorem table_any (W : World) (x : Tab) (hx : TabOk W x) (w : World) (hw : Below W.heap.size W w) : Calls Try.prog 45 #[x.v] w fun e w' => RetB e ∧ Below w.heap.size w w' := by
  have HRU : Hid (∀ (w : World), Below W.heap.size W w → Calls Try.prog 55 #[x.v] w fun e w' => RetB e ∧ Below w.heap.size w w') := Lib.hid (fun w hw => rules_any W x hx w hw)
  have HI : Hid (Row W StrOk 1 x.A0 x.l0 x.c0) := Lib.hid hx.ins
  have HO : Hid (Row W (AVal W) 6 x.A2 x.l2 x.c2) := Lib.hid hx.order
  have HE : Hid (∃ n, ValOk W (n + 1) [.int .i64 x.k, .bool x.q, .int .i64 x.m, .int .i64 x.s, .string x.t, .slice x.A3 x.l3 x.c3]) := Lib.hid hx.els
  have hle0 := HI.out.le
  have hle2 := HO.out.le
  have H1 : Hid (Below w.heap.size w (w.alloc (.cells #[.string x.h, .slice x.A0 x.l0 x.c0, .slice x.A1 x.l1 x.c1, .slice x.A2 x.l2 x.c2, .bool x.b, .int .i64 x.k, .bool x.q, .int .i64 x.m, .int .i64 x.s, .string x.t, .slice x.A3 x.l3 x.c3] 86)) ∧ (w.alloc (.cells #[.string x.h, .slice x.A0 x.l0 x.c0, .slice x.A1 x.l1 x.c1, .slice x.A2 x.l2 x.c2, .bool x.b, .int .i64 x.k, .bool x.q, .int .i64 x.m, .int .i64 x.s, .string x.t, .slice x.A3 x.l3 x.c3] 86)).heap[w.heap.size]? = some (.cells #[.string x.h, .slice x.A0 x.l0 x.c0, .slice x.A1 x.l1 x.c1, .slice x.A2 x.l2 x.c2, .bool x.b, .int .i64 x.k, .bool x.q, .int .i64 x.m, .int .i64 x.s, .string x.t, .slice x.A3 x.l3 x.c3] 86 (0, 0)) ∧ Below W.heap.size W (w.alloc (.cells #[.string x.h, .slice x.A0 x.l0 x.c0, .slice x.A1 x.l1 x.c1, .slice x.A2 x.l2 x.c2, .bool x.b, .int .i64 x.k, .bool x.q, .int .i64 x.m, .int .i64 x.s, .string x.t, .slice x.A3 x.l3 x.c3] 86))) :=
    Lib.hid ⟨(Below.refl _ _).alloc (Nat.le_refl _) _, heap_alloc_new w _, hw.alloc hw.size _⟩
  clear hx hw
  unfold Tab.v at HRU ⊢
  go_enter Try.func45, Try.ntmps45
  go_upto_block 0 with fail
  generalize w.alloc (.cells #[.string x.h, .slice x.A0 x.l0 x.c0, .slice x.A1 x.l1 x.c1, .slice x.A2 x.l2 x.c2, .bool x.b, .int .i64 x.k, .bool x.q, .int .i64 x.m, .int .i64 x.s, .string x.t, .slice x.A3 x.l3 x.c3] 86) = W1 at H1 ⊢
  go_cut [3] from 12 (fun s3 wx => (∃ b, s3 = .bool b) ∧ Below W1.heap.size W1 wx)
  case first =>
    go_wp2_with fail
    go_loopg [3, 5] 10 (fun g v i wr => ∃ j : Nat, ∃ b, j ≤ 10 ∧ g + j = 10 ∧ v = .bool b ∧ i = .int .i64 j ∧ Below W1.heap.size W1 wr)
    case atStart => exact ⟨0, _, Nat.zero_le _, rfl, rfl, rfl, Below.refl _ _⟩
    case round =>
      obtain ⟨j, b, hj, hg, rfl, rfl, hb⟩ := hrel
      have HG := Lib.hid hg
      have m0 := cell_of (stays H1.out.2.1 hb) 0
      have HB := Lib.hid hb
      clear hb hg
      by_cases hlt : j < 10
      · rcases (by omega : j = 0 ∨ j = 1 ∨ j = 2 ∨ j = 3 ∨ j = 4 ∨ j = 5 ∨ j = 6 ∨ j = 7 ∨ j = 8 ∨ j = 9) with rfl | rfl | rfl | rfl | rfl | rfl | rfl | rfl | rfl | rfl
        · clear hj hlt
          cases b
          all_goals
            go_wp2_with fail
            go_quiet (fail)
            have HBq := Lib.hid (below_drewN HB.out nq)
            generalize World.drewN _ nq = w8 at HBq ⊢
            clear m0
            go_wp2_with fail
            go_roundg (10 - 1)
            case rel => exact ⟨1, _, (by decide), (by decide), rfl, rfl, HBq.out⟩
            case measure => have := HG.out; omega
        · clear hj hlt
          cases b
          all_goals
            go_wp2_with fail
            go_quiet (fail)
            have HBq := Lib.hid (below_drewN HB.out nq)
            generalize World.drewN _ nq = w8 at HBq ⊢
            clear m0
            go_wp2_with fail
            go_roundg (10 - 2)
            case rel => exact ⟨2, _, (by decide), (by decide), rfl, rfl, HBq.out⟩
            case measure => have := HG.out; omega
        · clear hj hlt
          cases b
          all_goals
            go_wp2_with fail
            go_quiet (fail)
            have HBq := Lib.hid (below_drewN HB.out nq)
            generalize World.drewN _ nq = w8 at HBq ⊢
            clear m0
            go_wp2_with fail
            go_roundg (10 - 3)
            case rel => exact ⟨3, _, (by decide), (by decide), rfl, rfl, HBq.out⟩
            case measure => have := HG.out; omega
        · clear hj hlt
          cases b
          all_goals
            go_wp2_with fail
            go_quiet (fail)
            have HBq := Lib.hid (below_drewN HB.out nq)
            generalize World.drewN _ nq = w8 at HBq ⊢
            clear m0
            go_wp2_with fail
            go_roundg (10 - 4)
            case rel => exact ⟨4, _, (by decide), (by decide), rfl, rfl, HBq.out⟩
            case measure => have := HG.out; omega
        · clear hj hlt
          cases b
          all_goals
            go_wp2_with fail
            go_quiet (fail)
            have HBq := Lib.hid (below_drewN HB.out nq)
            generalize World.drewN _ nq = w8 at HBq ⊢
            clear m0
            go_wp2_with fail
            go_roundg (10 - 5)
            case rel => exact ⟨5, _, (by decide), (by decide), rfl, rfl, HBq.out⟩
            case measure => have := HG.out; omega
        · clear hj hlt
          cases b
          all_goals
            go_wp2_with fail
            go_quiet (fail)
            have HBq := Lib.hid (below_drewN HB.out nq)
            generalize World.drewN _ nq = w8 at HBq ⊢
            clear m0
            go_wp2_with fail
            go_roundg (10 - 6)
            case rel => exact ⟨6, _, (by decide), (by decide), rfl, rfl, HBq.out⟩
            case measure => have := HG.out; omega
        · clear hj hlt
          cases b
          all_goals
            go_wp2_with fail
            go_quiet (fail)
            have HBq := Lib.hid (below_drewN HB.out nq)
            generalize World.drewN _ nq = w8 at HBq ⊢
            clear m0
            go_wp2_with fail
            go_roundg (10 - 7)
            case rel => exact ⟨7, _, (by decide), (by decide), rfl, rfl, HBq.out⟩
            case measure => have := HG.out; omega
        · clear hj hlt
          cases b
          all_goals
            go_wp2_with fail
            go_quiet (fail)
            have HBq := Lib.hid (below_drewN HB.out nq)
            generalize World.drewN _ nq = w8 at HBq ⊢
            clear m0
            go_wp2_with fail
            go_roundg (10 - 8)
            case rel => exact ⟨8, _, (by decide), (by decide), rfl, rfl, HBq.out⟩
            case measure => have := HG.out; omega
        · clear hj hlt
          cases b
          all_goals
            go_wp2_with fail
            go_quiet (fail)
            have HBq := Lib.hid (below_drewN HB.out nq)
            generalize World.drewN _ nq = w8 at HBq ⊢
            clear m0
            go_wp2_with fail
            go_roundg (10 - 9)
            case rel => exact ⟨9, _, (by decide), (by decide), rfl, rfl, HBq.out⟩
            case measure => have := HG.out; omega
        · clear hj hlt
          cases b
          all_goals
            go_wp2_with fail
            go_quiet (fail)
            have HBq := Lib.hid (below_drewN HB.out nq)
            generalize World.drewN _ nq = w8 at HBq ⊢
            clear m0
            go_wp2_with fail
            go_roundg (10 - 10)
            case rel => exact ⟨10, _, (by decide), (by decide), rfl, rfl, HBq.out⟩
            case measure => have := HG.out; omega
      · have hlt' : ¬ (j : Int) < 10 := by omega
        go_wp2_with fail
        go_meet
        exact ⟨⟨_, rfl⟩, HB.out⟩
  case rest =>
    obtain ⟨⟨b, rfl⟩, hb⟩ := hcut
    have HB0 := Lib.hid hb
    clear hb
    go_upto_region 7 with fail
    go_cut [0, 3, 65] from 12 (fun _ _ s65 wx => (∃ b, s65 = .bool b) ∧ Below W1.heap.size W1 wx)
    case first =>
      have m1 := cell_of (stays H1.out.2.1 HB0.out) 1
      have m3 := cell_of (stays H1.out.2.1 HB0.out) 3
      have m5 := cell_of (stays H1.out.2.1 HB0.out) 5
      have m6 := cell_of (stays H1.out.2.1 HB0.out) 6
      have m7 := cell_of (stays H1.out.2.1 HB0.out) 7
      have m8 := cell_of (stays H1.out.2.1 HB0.out) 8
      have m9 := cell_of (stays H1.out.2.1 HB0.out) 9
      have m10 := cell_of (stays H1.out.2.1 HB0.out) 10
      have HC : Hid (Calls Try.prog 52 #[.agg #[.int .i64 x.k, .bool x.q, .int .i64 x.m, .int .i64 x.s, .string x.t, .slice x.A3 x.l3 x.c3]] wc fun e w' => RetB e ∧ Below wc.heap.size wc w') := Lib.hid (by
        obtain ⟨n, hv⟩ := HE.out
        exact is_any W (n + 1) _ _ _ _ _ _ _ _ hv wc (below_on H1.out.2.2 HB0.out))
      go_wp2_with fail
      all_goals first
      | (go_meet; exact ⟨⟨_, rfl⟩, HB0.out⟩)
      | (refine HC.out.mono ?_
         rintro e' w7 ⟨⟨z, rfl⟩, hb7⟩
         have HB7 := Lib.hid (below_on HB0.out hb7)
         clear hb7 m1 m3 m5 m6 m7 m8 m9 m10 HC
         have q4 := cell_of (stays H1.out.2.1 HB7.out) 4
         have q5 := cell_of (stays H1.out.2.1 HB7.out) 5
         cases z
         all_goals
           go_wp2_with fail
           all_goals (go_meet; exact ⟨⟨_, rfl⟩, HB7.out⟩))
    case rest =>
      obtain ⟨⟨b', rfl⟩, hb⟩ := hcut
      have HB1 := Lib.hid hb
      clear hb HB0
      cases b'
      rotate_left
      · go_wp2_with fail
        go_ret
        exact ⟨retB _, H1.out.1.trans (HB1.out.mono H1.out.1.size)⟩
      go_wp2_with fail
      go_loopg [6] x.l0 (fun g i wr => ∃ j : Nat, j ≤ x.l0 ∧ g + j = x.l0 ∧ i = .int .i64 j ∧ Below W1.heap.size W1 wr)
      case atStart => exact ⟨0, Nat.zero_le _, by omega, rfl, HB1.out⟩
      case round =>
        clear HB1
        obtain ⟨j, hj, hg, rfl, hb⟩ := hrel
        have HG := Lib.hid hg
        have m1 := cell_of (stays H1.out.2.1 hb) 1
        have HB := Lib.hid hb
        clear hb hg
        by_cases hlt : j < x.l0
        · obtain ⟨ad2, s', e', hs', hc'⟩ := HI.out.str hlt
          have g0 := hc' wr (below_on H1.out.2.2 HB.out)
          rw [e'] at m1
          clear hc' hs' e'
          go_wp2_with fail
          refine (parse_any s' wr).mono ?_
          rintro e'' w8 ⟨⟨y, n, f, rfl⟩, hb8⟩
          have HB8 : Hid (∀ o, Below W1.heap.size W1 (w8.alloc o)) := Lib.hid (fun o => (below_on HB.out hb8).alloc (below_on HB.out hb8).size o)
          clear hb8 m1 g0
          go_upto_region 13 with fail
          have HB9 := Lib.hid (HB8.out (.cells #[.int .i64 y.k, .bool y.b, .int .i64 y.m, .int .i64 y.s, .string y.t, .bool y.lo, .bool y.hi, .slice y.A y.n y.c] 110))
          generalize w8.alloc (.cells #[.int .i64 y.k, .bool y.b, .int .i64 y.m, .int .i64 y.s, .string y.t, .bool y.lo, .bool y.hi, .slice y.A y.n y.c] 110) = w9 at HB9 ⊢
          clear HB8
          by_cases hf : f = 0
          · subst hf
            go_wp2_with fail
            go_roundg (x.l0 - (j + 1))
            case rel => exact ⟨j + 1, by omega, by omega, by first | rfl | rw [w64 (by omega) hle0], HB9.out⟩
            case measure => have := HG.out; omega
          · go_wp2_with fail
            go_ret
            exact ⟨retB _, H1.out.1.trans (HB9.out.mono H1.out.1.size)⟩
        · go_wp2_with fail
          go_loopg [10] x.l2 (fun g i wr => ∃ j : Nat, j ≤ x.l2 ∧ g + j = x.l2 ∧ i = .int .i64 j ∧ Below W1.heap.size W1 wr)
          case atStart => exact ⟨0, Nat.zero_le _, by omega, rfl, HB.out⟩
          case round =>
            clear HB m1
            obtain ⟨p, hp, hg, rfl, hb⟩ := hrel
            have HGp := Lib.hid hg
            have m3 := cell_of (stays H1.out.2.1 hb) 3
            have HB := Lib.hid hb
            clear hb hg
            by_cases hltp : p < x.l2
            · obtain ⟨ad2, n, k, b, m, s, t, A5, l5, c5, e', hv, hc⟩ := HO.out.aval hltp
              have HC := Lib.hid hc
              have HV := Lib.hid hv
              obtain ⟨d0, d1, d2, d3, d4, d5⟩ := hc wr (below_on H1.out.2.2 HB.out)
              rw [e'] at m3
              have HE' := Lib.hid e'
              clear hc hv e'
              go_wp2_with fail
              refine (is_any W n k b m s t A5 l5 c5 HV.out wr (below_on H1.out.2.2 HB.out)).mono ?_
              rintro e'' w8 ⟨⟨z, rfl⟩, hb8⟩
              have HB8 := Lib.hid (below_on HB.out hb8)
              clear hb8 d0 d1 d2 d3 d4 d5 m3
              cases z
              · go_wp2_with fail
                go_ret
                exact ⟨retB _, H1.out.1.trans (HB8.out.mono H1.out.1.size)⟩
              go_wp2_with fail
              go_loopg [11] p (fun g i wr => ∃ q : Nat, q ≤ p ∧ g + q = p ∧ i = .int .i64 q ∧ Below W1.heap.size W1 wr)
              case atStart => exact ⟨0, Nat.zero_le _, by omega, rfl, HB8.out⟩
              case round =>
                clear HB8 HB
                obtain ⟨q, hq, hg, rfl, hb⟩ := hrel
                have HGq := Lib.hid hg
                have HB := Lib.hid hb
                clear hb hg
                by_cases hltq : q < p
                · obtain ⟨ad3, n', k', b', m', s', t', A6, l6, c6, e', hv', hc'⟩ := HO.out.aval (Nat.lt_trans hltq hltp)
                  have he3 : ad3 = ad2 := by have := HE'.out.symm.trans e'; injection this with this; exact this.symm
                  subst he3
                  have HV' := Lib.hid hv'
                  have HC' := Lib.hid hc'
                  clear hv' hc' e'
                  have hqx : (q : Int) < (x.l2 : Int) := by omega
                  have hpx : (p : Int) < (x.l2 : Int) := by omega
                  have HFS : Hid (∀ w', Below wr.heap.size wr w' → w'.cell? ⟨w.heap.size, 3, none⟩ = some (.slice (some ad3) x.l2 x.c2) ∧ SixAt w' ad3 (p * 6) k b m s t A5 l5 c5 ∧ SixAt w' ad3 (q * 6) k' b' m' s' t' A6 l6 c6) := Lib.hid (fun w' hb =>
                    ⟨by rw [← HE'.out]; exact cell_of (stays H1.out.2.1 (below_on HB.out hb)) 3, HC.out w' (below_on H1.out.2.2 (below_on HB.out hb)), HC'.out w' (below_on H1.out.2.2 (below_on HB.out hb))⟩)
                  unfold SixAt at HFS
                  have HEQ : Hid (∀ w', Below wr.heap.size wr w' → Calls Try.prog 54 #[.agg #[.int .i64 k, .bool b, .int .i64 m, .int .i64 s, .string t, .slice A5 l5 c5], .agg #[.int .i64 k', .bool b', .int .i64 m', .int .i64 s', .string t', .slice A6 l6 c6]] w' fun e w2 => RetB e ∧ Below wr.heap.size wr w2) := Lib.hid (fun w' hb => (equal_any W n n' k b m s t A5 l5 c5 k' b' m' s' t' A6 l6 c6 HV.out HV'.out w' (below_on H1.out.2.2 (below_on HB.out hb))).mono fun e w2 ⟨h1, h2⟩ => ⟨h1, below_on hb h2⟩)
                  go_upto_region 23 with fail
                  go_region_held3 (fun w' => w'.cell? ⟨w.heap.size, 3, none⟩ = some (.slice (some ad3) x.l2 x.c2) ∧ (w'.cell? (ad3.add (p * 6)) = some (.int .i64 k) ∧ w'.cell? ⟨(ad3.add (p * 6)).block, (ad3.add (p * 6)).off + 1, none⟩ = some (.bool b) ∧ w'.cell? ⟨(ad3.add (p * 6)).block, (ad3.add (p * 6)).off + 2, none⟩ = some (.int .i64 m) ∧ w'.cell? ⟨(ad3.add (p * 6)).block, (ad3.add (p * 6)).off + 3, none⟩ = some (.int .i64 s) ∧ w'.cell? ⟨(ad3.add (p * 6)).block, (ad3.add (p * 6)).off + 4, none⟩ = some (.string t) ∧ w'.cell? ⟨(ad3.add (p * 6)).block, (ad3.add (p * 6)).off + 5, none⟩ = some (.slice A5 l5 c5)) ∧ (w'.cell? (ad3.add (q * 6)) = some (.int .i64 k') ∧ w'.cell? ⟨(ad3.add (q * 6)).block, (ad3.add (q * 6)).off + 1, none⟩ = some (.bool b') ∧ w'.cell? ⟨(ad3.add (q * 6)).block, (ad3.add (q * 6)).off + 2, none⟩ = some (.int .i64 m') ∧ w'.cell? ⟨(ad3.add (q * 6)).block, (ad3.add (q * 6)).off + 3, none⟩ = some (.int .i64 s') ∧ w'.cell? ⟨(ad3.add (q * 6)).block, (ad3.add (q * 6)).off + 4, none⟩ = some (.string t') ∧ w'.cell? ⟨(ad3.add (q * 6)).block, (ad3.add (q * 6)).off + 5, none⟩ = some (.slice A6 l6 c6)))
                    (first | exact HFS.out _ H2.out | exact HFS.out _ (Below.refl _ _).drew)
                    (first | (go_at_call 54; refine (HEQ.out _ (Below.refl _ _).drew).mono ?_; rintro e w2 ⟨⟨z, rfl⟩, hb2⟩; have H2 := Lib.hid hb2; clear hb2))
                  have HB9 := Lib.hid (below_on HB.out H2.out)
                  clear H2 HFS HEQ
                  cases z
                  · go_wp2_with fail
                    go_roundg (p - (q + 1))
                    case rel => exact ⟨q + 1, by omega, by omega, by first | rfl | rw [w64 (n := p) (by omega) (by omega)], HB9.out⟩
                    case measure => have := HGq.out; omega
                  · go_wp2_with fail
                    go_ret
                    exact ⟨retB _, H1.out.1.trans (HB9.out.mono H1.out.1.size)⟩
                · go_wp2_with fail
                  go_roundg (x.l2 - (p + 1))
                  case rel => exact ⟨p + 1, by omega, by omega, by first | rfl | rw [w64 (by omega) hle2], HB.out⟩
                  case measure => have := HGp.out; omega
            · have m0 := cell_of (stays H1.out.2.1 HB.out) 0
              have m1 := cell_of (stays H1.out.2.1 HB.out) 1
              have m2 := cell_of (stays H1.out.2.1 HB.out) 2
              have m4 := cell_of (stays H1.out.2.1 HB.out) 4
              have m5 := cell_of (stays H1.out.2.1 HB.out) 5
              have m6 := cell_of (stays H1.out.2.1 HB.out) 6
              have m7 := cell_of (stays H1.out.2.1 HB.out) 7
              have m8 := cell_of (stays H1.out.2.1 HB.out) 8
              have m9 := cell_of (stays H1.out.2.1 HB.out) 9
              have m10 := cell_of (stays H1.out.2.1 HB.out) 10
              go_wp2_with fail
              refine (HRU.out wr (below_on H1.out.2.2 HB.out)).mono ?_
              rintro e'' w8 ⟨⟨z, rfl⟩, hb8⟩
              have HB8 := Lib.hid (below_on HB.out hb8)
              clear hb8 m0 m1 m2 m3 m4 m5 m6 m7 m8 m9 m10
              go_wp2_with fail
              go_ret
              exact ⟨retB _, H1.out.1.trans (HB8.out.mono H1.out.1.size)⟩
end Go.Proofs.Ytaddhackggbdkaa
/-! Sentries looked at: the document's answer comes to an end; condition: they lie in the world. -/
namespace Go.Proofs.Ytaddhackggbdkaa
open Go.RowKit
set_option maxRecDepth 100000
set_option linter.unusedSimpArgs false
set_option maxHeartbeats 4000000 in
theorem sentries_any (W : World) (M : Mod) (A : Option Addr) (l c : Nat) (h : Row W (SenOk W) 3 A l c) (w : World) (hw : Below W.heap.size W w) : Calls Try.prog 56 #[M.v, .slice A l c] w fun e w' => RetB e ∧ Below w.heap.size w w' := by
  have HO : Hid (∀ (f : Bool) (r m : Int) (w : World), Calls Try.prog 66 #[M.v, .agg #[.bool f, .int .i64 r, .int .i64 m]] w fun e w' => RetB e ∧ Below w.heap.size w w') := Lib.hid (fun f r m w => on_any M f r m w)
  obtain ⟨A0, l0, c0, A1, l1, c1, A2, l2, c2⟩ := M
  unfold Mod.v at HO ⊢
  have HR := Lib.hid h
  have hle := h.le
  have H1 : Hid (Below w.heap.size w (w.alloc (.cells #[.slice A0 l0 c0, .slice A1 l1 c1, .slice A2 l2 c2] 53)) ∧ (w.alloc (.cells #[.slice A0 l0 c0, .slice A1 l1 c1, .slice A2 l2 c2] 53)).heap[w.heap.size]? = some (.cells #[.slice A0 l0 c0, .slice A1 l1 c1, .slice A2 l2 c2] 53 (0, 0)) ∧ Below W.heap.size W (w.alloc (.cells #[.slice A0 l0 c0, .slice A1 l1 c1, .slice A2 l2 c2] 53))) :=
    Lib.hid ⟨(Below.refl _ _).alloc (Nat.le_refl _) _, heap_alloc_new w _, hw.alloc hw.size _⟩
  clear h hw
  go_enter Try.func56, Try.ntmps56
  go_upto_block 0 with fail
  generalize w.alloc (.cells #[.slice A0 l0 c0, .slice A1 l1 c1, .slice A2 l2 c2] 53) = W1 at H1 ⊢
  go_wp2_with fail
  go_loopg [5] l (fun g i wr => ∃ j : Nat, j ≤ l ∧ g + j = l ∧ i = .int .i64 j ∧ Below W1.heap.size W1 wr)
  case atStart => exact ⟨0, Nat.zero_le _, rfl, rfl, Below.refl _ _⟩
  case round =>
    obtain ⟨j, hj, hg, rfl, hb⟩ := hrel
    have HG := Lib.hid hg
    have HB := Lib.hid hb
    clear hb hg
    by_cases hlt : j < l
    rotate_left
    · go_wp2_with fail
      go_ret
      exact ⟨retB _, H1.out.1.trans (HB.out.mono H1.out.1.size)⟩
    obtain ⟨ad, A', l', c', s, t, rfl, hs, hr', hc⟩ := HR.out.sen hlt
    obtain ⟨d0, d1, d2⟩ := hc wr (below_on H1.out.2.2 HB.out)
    have HRO := Lib.hid hr'
    have hle' := hr'.le
    have H6 : Hid (Below W1.heap.size W1 (wr.alloc (.cells #[.slice A' l' c', .string s, .int .i64 t] 105)) ∧ (wr.alloc (.cells #[.slice A' l' c', .string s, .int .i64 t] 105)).heap[wr.heap.size]? = some (.cells #[.slice A' l' c', .string s, .int .i64 t] 105 (0, 0)) ∧ Below W.heap.size W (wr.alloc (.cells #[.slice A' l' c', .string s, .int .i64 t] 105))) :=
      Lib.hid ⟨HB.out.alloc HB.out.size _, heap_alloc_new wr _, (below_on H1.out.2.2 HB.out).alloc (below_on H1.out.2.2 HB.out).size _⟩
    clear hc hr'
    go_upto_region 5 with fail
    clear d0 d1 d2 HB
    generalize hwb : wr = wb at *
    clear hwb
    generalize wb.alloc (.cells #[.slice A' l' c', .string s, .int .i64 t] 105) = W6 at H6 ⊢
    go_cut [53] from 11 to 80 (fun s53 wx => (∃ b, s53 = .bool b) ∧ W6 = wx)
    case first =>
      have e0 := cell_of H6.out.2.1 0
      have e1 := cell_of H6.out.2.1 1
      have e2 := cell_of H6.out.2.1 2
      have g1 := cell_of (stays H1.out.2.1 H6.out.1) 1
      go_wp2_with fail
      all_goals (go_meet; exact ⟨⟨_, rfl⟩, rfl⟩)
    case rest =>
      obtain ⟨⟨b', rfl⟩, rfl⟩ := hcut
      cases b'
      rotate_left
      · go_wp2_with fail
        go_ret
        exact ⟨retB _, H1.out.1.trans (H6.out.1.mono H1.out.1.size)⟩
      go_wp2_with fail
      go_loopg [7] l' (fun g i wr => ∃ j : Nat, j ≤ l' ∧ g + j = l' ∧ i = .int .i64 j ∧ Below W6.heap.size W6 wr)
      case atStart => exact ⟨0, Nat.zero_le _, by omega, rfl, Below.refl _ _⟩
      case round =>
        obtain ⟨q, hq, hg, rfl, hb⟩ := hrel
        have HGq := Lib.hid hg
        have f0 := cell_of (stays H6.out.2.1 hb) 0
        have HBq := Lib.hid hb
        clear hb hg
        by_cases hltq : q < l'
        · obtain ⟨ad2, f, r, m, e', hc'⟩ := HRO.out.on hltq
          rw [e'] at f0
          have HC := Lib.hid hc'
          clear hc'
          obtain ⟨p0, p1, p2⟩ := HC.out wr (below_on H6.out.2.2 HBq.out)
          have m0 := cell_of (stays H1.out.2.1 (below_on H6.out.1 HBq.out)) 0
          have m1 := cell_of (stays H1.out.2.1 (below_on H6.out.1 HBq.out)) 1
          have m2 := cell_of (stays H1.out.2.1 (below_on H6.out.1 HBq.out)) 2
          have HFS : Hid (∀ w', Below wr.heap.size wr w' → w'.cell? ⟨w.heap.size, 0, none⟩ = some (.slice A0 l0 c0) ∧ w'.cell? ⟨w.heap.size, 1, none⟩ = some (.slice A1 l1 c1) ∧ w'.cell? ⟨w.heap.size, 2, none⟩ = some (.slice A2 l2 c2) ∧ w'.cell? ⟨wb.heap.size, 0, none⟩ = some (.slice (some ad2) l' c') ∧ w'.cell? (ad2.add (q * 3)) = some (.bool f) ∧ w'.cell? ⟨(ad2.add (q * 3)).block, (ad2.add (q * 3)).off + 1, none⟩ = some (.int .i64 r) ∧ w'.cell? ⟨(ad2.add (q * 3)).block, (ad2.add (q * 3)).off + 2, none⟩ = some (.int .i64 m)) := Lib.hid (fun w' hb => by
            have hh := stays H1.out.2.1 (below_on H6.out.1 (below_on HBq.out hb))
            exact ⟨cell_of hh 0, cell_of hh 1, cell_of hh 2, by rw [← e']; exact cell_of (stays H6.out.2.1 (below_on HBq.out hb)) 0, HC.out w' (below_on H6.out.2.2 (below_on HBq.out hb))⟩)
          go_upto_region 10 with fail
          go_region_held3 (fun w' => w'.cell? ⟨w.heap.size, 0, none⟩ = some (.slice A0 l0 c0) ∧ w'.cell? ⟨w.heap.size, 1, none⟩ = some (.slice A1 l1 c1) ∧ w'.cell? ⟨w.heap.size, 2, none⟩ = some (.slice A2 l2 c2) ∧ w'.cell? ⟨wb.heap.size, 0, none⟩ = some (.slice (some ad2) l' c') ∧ w'.cell? (ad2.add (q * 3)) = some (.bool f) ∧ w'.cell? ⟨(ad2.add (q * 3)).block, (ad2.add (q * 3)).off + 1, none⟩ = some (.int .i64 r) ∧ w'.cell? ⟨(ad2.add (q * 3)).block, (ad2.add (q * 3)).off + 2, none⟩ = some (.int .i64 m))
            (first | exact HFS.out _ H2.out | exact HFS.out _ (Below.refl _ _).drew)
            (first | (go_at_call 66; refine (HO.out f r m _).mono ?_; rintro e w2 ⟨⟨z, rfl⟩, hb2⟩; have H2 := Lib.hid ((Below.refl wr.heap.size wr).drew.trans hb2); clear hb2))
          have HB8 := Lib.hid (below_on HBq.out H2.out)
          clear H2 HFS p0 p1 p2 m0 m1 m2 f0
          cases z
          · go_wp2_with fail
            go_ret
            exact ⟨retB _, H1.out.1.trans ((H6.out.1.trans (HB8.out.mono H6.out.1.size)).mono H1.out.1.size)⟩
          · go_wp2_with fail
            go_roundg (l' - (q + 1))
            case rel => exact ⟨q + 1, by omega, by omega, by first | rfl | rw [w64 (by omega) hle'], HB8.out⟩
            case measure => have := HGq.out; omega
        · have f1 := cell_of (stays H6.out.2.1 HBq.out) 1
          by_cases hse : s.toList = []
          · have hs1 : (s.toList != []) = false := by simpa using hse
            have hs2 : (s.toList == []) = true := by simpa using hse
            clear hse
            go_wp2_with fail
            go_roundg (l - (j + 1))
            case rel => exact ⟨j + 1, by omega, by omega, by first | rfl | rw [w64 (by omega) hle], H6.out.1.trans (HBq.out.mono H6.out.1.size)⟩
            case measure => have := HG.out; omega
          · have hs1 : (s.toList != []) = true := by simpa using hse
            have hs2 : (s.toList == []) = false := by simpa using hse
            clear hse
            go_wp2_with fail
            refine (parse_any s wr).mono ?_
            rintro e'' w8 ⟨⟨y, n, f, rfl⟩, hb8⟩
            have HB8 : Hid (∀ o, Below W6.heap.size W6 (w8.alloc o)) := Lib.hid (fun o => (below_on HBq.out hb8).alloc (below_on HBq.out hb8).size o)
            clear hb8 f0 f1
            go_upto_region 14 with fail
            have HB9 := Lib.hid (HB8.out (.cells #[.int .i64 y.k, .bool y.b, .int .i64 y.m, .int .i64 y.s, .string y.t, .bool y.lo, .bool y.hi, .slice y.A y.n y.c] 110))
            generalize w8.alloc (.cells #[.int .i64 y.k, .bool y.b, .int .i64 y.m, .int .i64 y.s, .string y.t, .bool y.lo, .bool y.hi, .slice y.A y.n y.c] 110) = w9 at HB9 ⊢
            clear HB8
            by_cases hf : f = 0
            · subst hf
              go_wp2_with fail
              go_roundg (l - (j + 1))
              case rel => exact ⟨j + 1, by omega, by omega, by first | rfl | rw [w64 (by omega) hle], H6.out.1.trans (HB9.out.mono H6.out.1.size)⟩
              case measure => have := HG.out; omega
            · go_wp2_with fail
              go_ret
              exact ⟨retB _, H1.out.1.trans ((H6.out.1.trans (HB9.out.mono H6.out.1.size)).mono H1.out.1.size)⟩
end Go.Proofs.Ytaddhackggbdkaa
/-! An item of a plan looked at: the document's answer comes to an end; condition: the model lies in the world. -/
namespace Go.Proofs.Ytaddhackggbdkaa
open Go.RowKit
set_option maxRecDepth 100000
set_option linter.unusedSimpArgs false
set_option maxHeartbeats 4000000 in
theorem item_any (W : World) (M : Mod) (hM : ModOk W M) (i : Nat) (hi : i < M.l2) (w : World) (hw : Below W.heap.size W w) : Calls Try.prog 46 #[M.v, .int .i64 i] w fun e w' => RetB e ∧ Below w.heap.size w w' := by
  have HS : Hid (∀ (A : Option Addr) (l c : Nat) (_ : Row W (SenOk W) 3 A l c) (w : World) (_ : Below W.heap.size W w), Calls Try.prog 56 #[M.v, .slice A l c] w fun e w' => RetB e ∧ Below w.heap.size w w') := Lib.hid (fun A l c h w hw => sentries_any W M A l c h w hw)
  obtain ⟨A0, l0, c0, A1, l1, c1, A2, l2, c2⟩ := M
  unfold Mod.v at HS ⊢
  have HP : Hid (Row W (ItemOk W) 8 A2 l2 c2) := Lib.hid hM.plan
  have hle2 := HP.out.le
  have hi : i < l2 := hi
  have hii : (i : Int) < (l2 : Int) := by omega
  have H1 : Hid (Below w.heap.size w (w.alloc (.cells #[.slice A0 l0 c0, .slice A1 l1 c1, .slice A2 l2 c2] 53)) ∧ (w.alloc (.cells #[.slice A0 l0 c0, .slice A1 l1 c1, .slice A2 l2 c2] 53)).heap[w.heap.size]? = some (.cells #[.slice A0 l0 c0, .slice A1 l1 c1, .slice A2 l2 c2] 53 (0, 0)) ∧ Below W.heap.size W (w.alloc (.cells #[.slice A0 l0 c0, .slice A1 l1 c1, .slice A2 l2 c2] 53))) :=
    Lib.hid ⟨(Below.refl _ _).alloc (Nat.le_refl _) _, heap_alloc_new w _, hw.alloc hw.size _⟩
  clear hM hw
  obtain ⟨ad, x, rfl, hx, hc⟩ := HP.out.item hi
  have HX := Lib.hid hx
  have HC := Lib.hid hc
  clear hx hc
  obtain ⟨d0, d1, d2, d3, d4, d5, d6, d7⟩ := HC.out _ H1.out.2.2
  go_enter Try.func46, Try.ntmps46
  go_upto_region 2 with fail
  have H6 : Hid (Below w.heap.size w ((w.alloc (.cells #[.slice A0 l0 c0, .slice A1 l1 c1, .slice (some ad) l2 c2] 53)).alloc (.cells #[.string x.s, .int .i64 x.k, .int .i64 x.p, .slice x.A0 x.l0 x.c0, .slice x.A1 x.l1 x.c1, .bool x.b0, .bool x.b1, .bool x.b2] 92)) ∧
      ((w.alloc (.cells #[.slice A0 l0 c0, .slice A1 l1 c1, .slice (some ad) l2 c2] 53)).alloc (.cells #[.string x.s, .int .i64 x.k, .int .i64 x.p, .slice x.A0 x.l0 x.c0, .slice x.A1 x.l1 x.c1, .bool x.b0, .bool x.b1, .bool x.b2] 92)).heap[w.heap.size]? = some (.cells #[.slice A0 l0 c0, .slice A1 l1 c1, .slice (some ad) l2 c2] 53 (0, 0)) ∧
      ((w.alloc (.cells #[.slice A0 l0 c0, .slice A1 l1 c1, .slice (some ad) l2 c2] 53)).alloc (.cells #[.string x.s, .int .i64 x.k, .int .i64 x.p, .slice x.A0 x.l0 x.c0, .slice x.A1 x.l1 x.c1, .bool x.b0, .bool x.b1, .bool x.b2] 92)).heap[w.heap.size + 1]? = some (.cells #[.string x.s, .int .i64 x.k, .int .i64 x.p, .slice x.A0 x.l0 x.c0, .slice x.A1 x.l1 x.c1, .bool x.b0, .bool x.b1, .bool x.b2] 92 (0, 0)) ∧
      Below W.heap.size W ((w.alloc (.cells #[.slice A0 l0 c0, .slice A1 l1 c1, .slice (some ad) l2 c2] 53)).alloc (.cells #[.string x.s, .int .i64 x.k, .int .i64 x.p, .slice x.A0 x.l0 x.c0, .slice x.A1 x.l1 x.c1, .bool x.b0, .bool x.b1, .bool x.b2] 92))) :=
    Lib.hid ⟨H1.out.1.alloc H1.out.1.size _, stays H1.out.2.1 ((Below.refl _ _).alloc (Nat.le_refl _) _), by have := heap_alloc_new (w.alloc (.cells #[.slice A0 l0 c0, .slice A1 l1 c1, .slice (some ad) l2 c2] 53)) (.cells #[.string x.s, .int .i64 x.k, .int .i64 x.p, .slice x.A0 x.l0 x.c0, .slice x.A1 x.l1 x.c1, .bool x.b0, .bool x.b1, .bool x.b2] 92); simpa using this, H1.out.2.2.alloc H1.out.2.2.size _⟩
  generalize (w.alloc (.cells #[.slice A0 l0 c0, .slice A1 l1 c1, .slice (some ad) l2 c2] 53)).alloc (.cells #[.string x.s, .int .i64 x.k, .int .i64 x.p, .slice x.A0 x.l0 x.c0, .slice x.A1 x.l1 x.c1, .bool x.b0, .bool x.b1, .bool x.b2] 92) = W6 at H6 ⊢
  clear d0 d1 d2 d3 d4 d5 d6 d7 H1
  go_cut [51] from 7 (fun s51 wx => (∃ b, s51 = .bool b) ∧ W6 = wx)
  case first =>
    have e0 := cell_of H6.out.2.2.1 0
    have e1 := cell_of H6.out.2.2.1 1
    have e2 := cell_of H6.out.2.2.1 2
    have g2 := cell_of H6.out.2.1 2
    go_wp2_with fail
    refine (name_any _ _ HX.out.s).mono ?_
    rintro e w7 ⟨⟨z, rfl⟩, rfl⟩
    cases z
    · go_wp2_with fail
      all_goals (go_meet; exact ⟨⟨_, rfl⟩, rfl⟩)
    by_cases hp : 0 ≤ x.p ∧ x.p < (i : Int)
    · obtain ⟨hp0, hp1⟩ := hp
      obtain ⟨q, hq⟩ := Int.eq_ofNat_of_zero_le hp0
      have hqi : q < l2 := by omega
      obtain ⟨ad', x', e', -, hc'⟩ := HP.out.item hqi
      injection e' with e'
      subst e'
      obtain ⟨-, n1, -, -, -, -, -, -⟩ := hc' _ H6.out.2.2.2
      rw [hq] at e2
      have hq1 : (q : Int) < (i : Int) := by omega
      have hq2 : (q : Int) < (l2 : Int) := by omega
      clear hc' hp0 hp1
      have HQ := Lib.hid hq
      clear hq
      go_wp2_with fail
      all_goals (go_meet; exact ⟨⟨_, rfl⟩, rfl⟩)
    · by_cases hp0 : 0 ≤ x.p
      · have hp1 : (i : Int) ≤ x.p := by omega
        clear hp
        go_wp2_with fail
        all_goals (go_meet; exact ⟨⟨_, rfl⟩, rfl⟩)
      · have hp1 : x.p < 0 := by omega
        clear hp hp0
        go_wp2_with fail
        all_goals (go_meet; exact ⟨⟨_, rfl⟩, rfl⟩)
  case rest =>
    obtain ⟨⟨b', rfl⟩, rfl⟩ := hcut
    cases b'
    rotate_left
    · go_wp2_with fail
      go_ret
      exact ⟨retB _, H6.out.1⟩
    go_wp2_with fail
    go_loopg [6] i (fun g v wr => ∃ j : Nat, j ≤ i ∧ g + j = i ∧ v = .int .i64 j ∧ Below W6.heap.size W6 wr)
    case atStart => exact ⟨0, Nat.zero_le _, by omega, rfl, Below.refl _ _⟩
    case round =>
      obtain ⟨j, hj, hg, rfl, hb⟩ := hrel
      have HG := Lib.hid hg
      have g2 := cell_of (stays H6.out.2.1 hb) 2
      have f0 := cell_of (stays H6.out.2.2.1 hb) 0
      have HB := Lib.hid hb
      clear hb hg
      by_cases hlt : j < i
      · obtain ⟨ad', x', e', -, hc'⟩ := HP.out.item (Nat.lt_trans hlt hi)
        injection e' with e'
        subst e'
        obtain ⟨n0, -, -, -, -, -, -, -⟩ := hc' wr (below_on H6.out.2.2.2 HB.out)
        have hjl : (j : Int) < (l2 : Int) := by omega
        clear hc'
        go_wp2_with fail
        go_quiet (fail)
        have HBq := Lib.hid (below_drewN HB.out nq)
        generalize World.drewN _ nq = w8 at HBq ⊢
        clear n0 g2 f0
        go_wp2_with fail
        all_goals first
        | (go_ret; exact ⟨retB _, H6.out.1.trans (HBq.out.mono H6.out.1.size)⟩)
        | (go_roundg (i - (j + 1))
           case rel => exact ⟨j + 1, by omega, by omega, by first | rfl | rw [w64 (by omega) (by omega)], HBq.out⟩
           case measure => have := HG.out; omega)
      · go_upto_region 9 with fail
        go_cut [98] from 7 (fun s98 wx => (∃ b, s98 = .bool b) ∧ wr = wx)
        case first =>
          have e1 := cell_of (stays H6.out.2.2.1 HB.out) 1
          have e3 := cell_of (stays H6.out.2.2.1 HB.out) 3
          have e5 := cell_of (stays H6.out.2.2.1 HB.out) 5
          have e7 := cell_of (stays H6.out.2.2.1 HB.out) 7
          clear g2 f0
          go_wp2_with fail
          all_goals (go_meet; exact ⟨⟨_, rfl⟩, rfl⟩)
        case rest =>
          obtain ⟨⟨b', rfl⟩, rfl⟩ := hcut
          cases b'
          rotate_left
          · go_wp2_with fail
            go_ret
            exact ⟨retB _, H6.out.1.trans (HB.out.mono H6.out.1.size)⟩
          have k0 := cell_of (stays H6.out.2.1 HB.out) 0
          have k1 := cell_of (stays H6.out.2.1 HB.out) 1
          have k3 := cell_of (stays H6.out.2.2.1 HB.out) 3
          clear f0
          go_wp2_with fail
          refine (HS.out x.A0 x.l0 x.c0 HX.out.entry _ (below_on H6.out.2.2.2 HB.out)).mono ?_
          rintro e w8 ⟨⟨z, rfl⟩, hb8⟩
          have HB8 := Lib.hid (below_on HB.out hb8)
          clear hb8 k0 k1 k3 g2
          have k0 := cell_of (stays H6.out.2.1 HB8.out) 0
          have k1 := cell_of (stays H6.out.2.1 HB8.out) 1
          have k2 := cell_of (stays H6.out.2.1 HB8.out) 2
          have k4 := cell_of (stays H6.out.2.2.1 HB8.out) 4
          cases z
          · go_wp2_with fail
            go_ret
            exact ⟨retB _, H6.out.1.trans (HB8.out.mono H6.out.1.size)⟩
          go_wp2_with fail
          refine (HS.out x.A1 x.l1 x.c1 HX.out.exit _ (below_on H6.out.2.2.2 HB8.out)).mono ?_
          rintro e w9 ⟨⟨z, rfl⟩, hb9⟩
          have HB9 := Lib.hid (below_on HB8.out hb9)
          clear hb9 k0 k1 k2 k4
          go_wp2_with fail
          go_ret
          exact ⟨retB _, H6.out.1.trans (HB9.out.mono H6.out.1.size)⟩
end Go.Proofs.Ytaddhackggbdkaa
/-! A model looked at: the document's answer comes to an end; condition: the model lies in the world. -/
namespace Go.Proofs.Ytaddhackggbdkaa
open Go.RowKit
set_option maxRecDepth 100000
set_option linter.unusedSimpArgs false
set_option maxHeartbeats 4000000 in
theorem model_any (W : World) (M : Mod) (hM : ModOk W M) (w : World) (hw : Below W.heap.size W w) : Calls Try.prog 30 #[M.v] w fun e w' => RetB e ∧ Below w.heap.size w w' := by
  have HIT : Hid (∀ (i : Nat) (_ : i < M.l2) (w : World) (_ : Below W.heap.size W w), Calls Try.prog 46 #[M.v, .int .i64 i] w fun e w' => RetB e ∧ Below w.heap.size w w') := Lib.hid (fun i hi w hw => item_any W M hM i hi w hw)
  obtain ⟨A0, l0, c0, A1, l1, c1, A2, l2, c2⟩ := M
  unfold Mod.v at HIT ⊢
  have HF : Hid (Row W FileOk 3 A0 l0 c0) := Lib.hid hM.file
  have HT : Hid (Row W (TableOk W) 11 A1 l1 c1) := Lib.hid hM.tab
  have hle1 := HT.out.le
  have hle2 : l2 ≤ 9223372036854775807 := hM.plan.le
  have H1 : Hid (Below w.heap.size w (w.alloc (.cells #[.slice A0 l0 c0, .slice A1 l1 c1, .slice A2 l2 c2] 53)) ∧ (w.alloc (.cells #[.slice A0 l0 c0, .slice A1 l1 c1, .slice A2 l2 c2] 53)).heap[w.heap.size]? = some (.cells #[.slice A0 l0 c0, .slice A1 l1 c1, .slice A2 l2 c2] 53 (0, 0)) ∧ Below W.heap.size W (w.alloc (.cells #[.slice A0 l0 c0, .slice A1 l1 c1, .slice A2 l2 c2] 53))) :=
    Lib.hid ⟨(Below.refl _ _).alloc (Nat.le_refl _) _, heap_alloc_new w _, hw.alloc hw.size _⟩
  clear hM hw
  go_enter Try.func30, Try.ntmps30
  go_upto_region 1 with fail
  generalize w.alloc (.cells #[.slice A0 l0 c0, .slice A1 l1 c1, .slice A2 l2 c2] 53) = W1 at H1 ⊢
  go_cut [26] from 5 (fun s26 wx => (∃ b, s26 = .bool b) ∧ Below W1.heap.size W1 wx)
  case first =>
    have m0 := cell_of H1.out.2.1 0
    go_wp2_with fail
    refine (files_any W A0 l0 c0 HF.out W1 H1.out.2.2).mono ?_
    rintro e w2 ⟨⟨z, rfl⟩, hb2⟩
    have m1 := cell_of (stays H1.out.2.1 hb2) 1
    have m2 := cell_of (stays H1.out.2.1 hb2) 2
    have HB2 := Lib.hid hb2
    clear hb2 m0
    cases z
    all_goals
      go_wp2_with fail
      all_goals (go_meet; exact ⟨⟨_, rfl⟩, HB2.out⟩)
  case rest =>
    obtain ⟨⟨b, rfl⟩, hb⟩ := hcut
    have HB0 := Lib.hid hb
    clear hb
    cases b
    rotate_left
    · go_wp2_with fail
      go_ret
      exact ⟨retB _, H1.out.1.trans (HB0.out.mono H1.out.1.size)⟩
    go_wp2_with fail
    go_loopg [3] l1 (fun g i wr => ∃ j : Nat, j ≤ l1 ∧ g + j = l1 ∧ i = .int .i64 j ∧ Below W1.heap.size W1 wr)
    case atStart => exact ⟨0, Nat.zero_le _, by omega, rfl, HB0.out⟩
    case round =>
      clear HB0
      obtain ⟨j, hj, hg, rfl, hb⟩ := hrel
      have HG := Lib.hid hg
      have m1 := cell_of (stays H1.out.2.1 hb) 1
      have HB := Lib.hid hb
      clear hb hg
      by_cases hlt : j < l1
      · obtain ⟨ad, x, e', hx, hc⟩ := HT.out.table hlt
        obtain ⟨d0, d1, d2, d3, d4, d5, d6, d7, d8, d9, d10⟩ := hc wr (below_on H1.out.2.2 HB.out)
        have HC : Hid (Calls Try.prog 45 #[.agg #[.string x.h, .slice x.A0 x.l0 x.c0, .slice x.A1 x.l1 x.c1, .slice x.A2 x.l2 x.c2, .bool x.b, .int .i64 x.k, .bool x.q, .int .i64 x.m, .int .i64 x.s, .string x.t, .slice x.A3 x.l3 x.c3]] wr fun e w' => RetB e ∧ Below wr.heap.size wr w') := Lib.hid (table_any W x hx wr (below_on H1.out.2.2 HB.out))
        rw [e'] at m1
        clear hc hx e'
        go_wp2_with fail
        refine HC.out.mono ?_
        rintro e w2 ⟨⟨z, rfl⟩, hb2⟩
        have HB2 := Lib.hid (below_on HB.out hb2)
        clear hb2 HC m1 d0 d1 d2 d3 d4 d5 d6 d7 d8 d9 d10
        cases z
        · go_wp2_with fail
          go_ret
          exact ⟨retB _, H1.out.1.trans (HB2.out.mono H1.out.1.size)⟩
        · go_wp2_with fail
          go_roundg (l1 - (j + 1))
          case rel => exact ⟨j + 1, by omega, by omega, by first | rfl | rw [w64 (by omega) hle1], HB2.out⟩
          case measure => have := HG.out; omega
      · go_wp2_with fail
        go_loopg [4] l2 (fun g i wr => ∃ j : Nat, j ≤ l2 ∧ g + j = l2 ∧ i = .int .i64 j ∧ Below W1.heap.size W1 wr)
        case atStart => exact ⟨0, Nat.zero_le _, by omega, rfl, HB.out⟩
        case round =>
          clear HB m1
          obtain ⟨q, hq, hg, rfl, hb⟩ := hrel
          have HGq := Lib.hid hg
          have m0 := cell_of (stays H1.out.2.1 hb) 0
          have m1 := cell_of (stays H1.out.2.1 hb) 1
          have m2 := cell_of (stays H1.out.2.1 hb) 2
          have HB := Lib.hid hb
          clear hb hg
          by_cases hltq : q < l2
          · go_wp2_with fail
            refine (HIT.out q hltq wr (below_on H1.out.2.2 HB.out)).mono ?_
            rintro e w2 ⟨⟨z, rfl⟩, hb2⟩
            have HB2 := Lib.hid (below_on HB.out hb2)
            clear hb2 m0 m1 m2
            cases z
            · go_wp2_with fail
              go_ret
              exact ⟨retB _, H1.out.1.trans (HB2.out.mono H1.out.1.size)⟩
            · go_wp2_with fail
              go_roundg (l2 - (q + 1))
              case rel => exact ⟨q + 1, by omega, by omega, by first | rfl | rw [w64 (by omega) hle2], HB2.out⟩
              case measure => have := HGq.out; omega
          · go_wp2_with fail
            go_ret
            exact ⟨retB _, H1.out.1.trans (HB.out.mono H1.out.1.size)⟩
end Go.Proofs.Ytaddhackggbdkaa
