/- The guard on a model's size, walked. Conditions stand in each part's own head. -/
import Derived.Test.YtaddhackggbdkaaHsA
import Derived.Deep.CutBlock
/-! How much a model is, counted: the law's own guard comes to an end; condition: the model lies in the world. -/
namespace Go.Proofs.Ytaddhackggbdkaa
open Go.RowKit
set_option maxRecDepth 100000
theorem stays {w wr : World} {b : Nat} {o : Obj} (h : w.heap[b]? = some o) (hb : Below w.heap.size w wr) : wr.heap[b]? = some o :=
  (hb.block _ (Array.getElem?_eq_some_iff.1 h).1).trans h
theorem below_on {W w w' : World} (h : Below W.heap.size W w) (hb : Below w.heap.size w w') : Below W.heap.size W w' := h.trans (hb.mono h.size)
set_option maxHeartbeats 4000000 in
theorem heavy_any (W : World) (M : Mod) (hM : ModOk W M) (w : World) (hw : Below W.heap.size W w) : Calls Try.prog 29 #[M.v] w fun e w' => RetB e ∧ Below w.heap.size w w' := by
  obtain ⟨A0, l0, c0, A1, l1, c1, A2, l2, c2⟩ := M
  have HF : Hid (Row W FileOk 3 A0 l0 c0) := Lib.hid hM.file
  have HT : Hid (Row W (TableOk W) 11 A1 l1 c1) := Lib.hid hM.tab
  have HP : Hid (Row W (ItemOk W) 8 A2 l2 c2) := Lib.hid hM.plan
  have hle0 := HF.out.le
  have hle1 := HT.out.le
  have hle2 := HP.out.le
  have H1 : Hid (Below w.heap.size w (w.alloc (.cells #[.slice A0 l0 c0, .slice A1 l1 c1, .slice A2 l2 c2] 53)) ∧ (w.alloc (.cells #[.slice A0 l0 c0, .slice A1 l1 c1, .slice A2 l2 c2] 53)).heap[w.heap.size]? = some (.cells #[.slice A0 l0 c0, .slice A1 l1 c1, .slice A2 l2 c2] 53 (0, 0)) ∧ Below W.heap.size W (w.alloc (.cells #[.slice A0 l0 c0, .slice A1 l1 c1, .slice A2 l2 c2] 53))) :=
    Lib.hid ⟨(Below.refl _ _).alloc (Nat.le_refl _) _, heap_alloc_new w _, hw.alloc hw.size _⟩
  clear hM hw
  unfold Mod.v
  go_enter Try.func29, Try.ntmps29
  go_upto_block 0 with fail
  generalize w.alloc (.cells #[.slice A0 l0 c0, .slice A1 l1 c1, .slice A2 l2 c2] 53) = W1 at H1 ⊢
  go_cut [3] from 12 (fun s3 wx => (∃ y, s3 = .int .i64 y) ∧ Below W1.heap.size W1 wx)
  case first =>
    as_aux_lemma =>
    go_wp2_with fail
    go_loopg [3, 4] l0 (fun gg xx ii wr => ∃ jj : Nat, jj ≤ l0 ∧ gg + jj = l0 ∧ (∃ yy, xx = .int .i64 yy) ∧ ii = .int .i64 jj ∧ Below W1.heap.size W1 wr)
    case atStart => exact ⟨0, Nat.zero_le _, by omega, ⟨_, rfl⟩, rfl, Below.refl _ _⟩
    case round =>
      obtain ⟨j, hj, hg, ⟨y, rfl⟩, rfl, hb⟩ := hrel
      have HG := Lib.hid hg
      have m0 := cell_of (stays H1.out.2.1 hb) 0
      have HB := Lib.hid hb
      clear hb hg
      by_cases hlt : j < l0
      rotate_left
      · go_wp2_with fail
        all_goals (go_meet; exact ⟨⟨_, rfl⟩, HB.out⟩)
      by_cases hny : y < 9000
      rotate_left
      · have hny2 : 9000 ≤ y := by omega
        go_wp2_with fail
        all_goals (go_meet; exact ⟨⟨_, rfl⟩, HB.out⟩)
      obtain ⟨ad, s, p, t, rfl, hs, hc⟩ := HF.out.filei hlt
      obtain ⟨d0, -, -⟩ := hc wr (below_on H1.out.2.2 HB.out)
      clear hc hs
      go_wp2_with fail
      go_roundg (l0 - (j + 1))
      case rel => exact ⟨j + 1, by omega, by omega, ⟨_, rfl⟩, by first | rfl | rw [w64 (by omega) hle0], HB.out⟩
      case measure => have := HG.out; omega
  case rest =>
    obtain ⟨⟨y0, rfl⟩, hb⟩ := hcut
    have HB0 := Lib.hid hb
    clear hb
    go_upto_block 2 with fail
    go_cut [3] from 12 (fun s3 wx => (∃ y, s3 = .int .i64 y) ∧ Below W1.heap.size W1 wx)
    case first =>
      as_aux_lemma =>
      go_wp2_with fail
      go_loopg [3, 5] l1 (fun gg xx ii wr => ∃ jj : Nat, jj ≤ l1 ∧ gg + jj = l1 ∧ (∃ yy, xx = .int .i64 yy) ∧ ii = .int .i64 jj ∧ Below W1.heap.size W1 wr)
      case atStart => exact ⟨0, Nat.zero_le _, by omega, ⟨_, rfl⟩, rfl, HB0.out⟩
      case round =>
        obtain ⟨j, hj, hg, ⟨y, rfl⟩, rfl, hb⟩ := hrel
        have HG := Lib.hid hg
        have m1 := cell_of (stays H1.out.2.1 hb) 1
        have HB := Lib.hid hb
        clear hb hg
        by_cases hlt : j < l1
        rotate_left
        · go_wp2_with fail
          all_goals (go_meet; exact ⟨⟨_, rfl⟩, HB.out⟩)
        by_cases hny : y < 9000
        rotate_left
        · have hny2 : 9000 ≤ y := by omega
          go_wp2_with fail
          all_goals (go_meet; exact ⟨⟨_, rfl⟩, HB.out⟩)
        obtain ⟨ad, x, rfl, hx, hc⟩ := HT.out.table hlt
        obtain ⟨d0, d1, d2, d3, d4, d5, d6, d7, d8, d9, d10⟩ := hc wr (below_on H1.out.2.2 HB.out)
        have HX := Lib.hid hx
        clear hc hx
        have H6 : Hid (Below W1.heap.size W1 (wr.alloc (.cells #[.string x.h, .slice x.A0 x.l0 x.c0, .slice x.A1 x.l1 x.c1, .slice x.A2 x.l2 x.c2, .bool x.b, .int .i64 x.k, .bool x.q, .int .i64 x.m, .int .i64 x.s, .string x.t, .slice x.A3 x.l3 x.c3] 86)) ∧ (wr.alloc (.cells #[.string x.h, .slice x.A0 x.l0 x.c0, .slice x.A1 x.l1 x.c1, .slice x.A2 x.l2 x.c2, .bool x.b, .int .i64 x.k, .bool x.q, .int .i64 x.m, .int .i64 x.s, .string x.t, .slice x.A3 x.l3 x.c3] 86)).heap[wr.heap.size]? = some (.cells #[.string x.h, .slice x.A0 x.l0 x.c0, .slice x.A1 x.l1 x.c1, .slice x.A2 x.l2 x.c2, .bool x.b, .int .i64 x.k, .bool x.q, .int .i64 x.m, .int .i64 x.s, .string x.t, .slice x.A3 x.l3 x.c3] 86 (0, 0)) ∧ Below W.heap.size W (wr.alloc (.cells #[.string x.h, .slice x.A0 x.l0 x.c0, .slice x.A1 x.l1 x.c1, .slice x.A2 x.l2 x.c2, .bool x.b, .int .i64 x.k, .bool x.q, .int .i64 x.m, .int .i64 x.s, .string x.t, .slice x.A3 x.l3 x.c3] 86))) :=
          Lib.hid ⟨HB.out.alloc HB.out.size _, heap_alloc_new wr _, (below_on H1.out.2.2 HB.out).alloc (below_on H1.out.2.2 HB.out).size _⟩
        go_upto_region 10 with fail
        generalize hwb : wr = wb at *
        clear hwb
        generalize wb.alloc (.cells #[.string x.h, .slice x.A0 x.l0 x.c0, .slice x.A1 x.l1 x.c1, .slice x.A2 x.l2 x.c2, .bool x.b, .int .i64 x.k, .bool x.q, .int .i64 x.m, .int .i64 x.s, .string x.t, .slice x.A3 x.l3 x.c3] 86) = W6 at H6 ⊢
        clear d0 d1 d2 d3 d4 d5 d6 d7 d8 d9 d10 m1 HB
        obtain ⟨n, hv⟩ := HX.out.els
        have HV := Lib.hid hv
        clear hv
        have HFS : Hid (∀ w', Below W6.heap.size W6 w' → w'.cell? ⟨wb.heap.size, 0, none⟩ = some (.string x.h) ∧ w'.cell? ⟨wb.heap.size, 1, none⟩ = some (.slice x.A0 x.l0 x.c0) ∧ w'.cell? ⟨wb.heap.size, 2, none⟩ = some (.slice x.A1 x.l1 x.c1) ∧ w'.cell? ⟨wb.heap.size, 3, none⟩ = some (.slice x.A2 x.l2 x.c2) ∧ w'.cell? ⟨wb.heap.size, 5, none⟩ = some (.int .i64 x.k) ∧ w'.cell? ⟨wb.heap.size, 6, none⟩ = some (.bool x.q) ∧ w'.cell? ⟨wb.heap.size, 7, none⟩ = some (.int .i64 x.m) ∧ w'.cell? ⟨wb.heap.size, 8, none⟩ = some (.int .i64 x.s) ∧ w'.cell? ⟨wb.heap.size, 9, none⟩ = some (.string x.t) ∧ w'.cell? ⟨wb.heap.size, 10, none⟩ = some (.slice x.A3 x.l3 x.c3)) := Lib.hid (fun w' hb => by
          have hh := stays H6.out.2.1 hb
          exact ⟨cell_of hh 0, cell_of hh 1, cell_of hh 2, cell_of hh 3, cell_of hh 5, cell_of hh 6, cell_of hh 7, cell_of hh 8, cell_of hh 9, cell_of hh 10⟩)
        have h6 := HFS.out W6 (Below.refl _ _)
        obtain ⟨e0, e1, e2, e3, e5, e6, e7, e8, e9, e10⟩ := h6
        go_region_held3 (fun w' => w'.cell? ⟨wb.heap.size, 0, none⟩ = some (.string x.h) ∧ w'.cell? ⟨wb.heap.size, 1, none⟩ = some (.slice x.A0 x.l0 x.c0) ∧ w'.cell? ⟨wb.heap.size, 2, none⟩ = some (.slice x.A1 x.l1 x.c1) ∧ w'.cell? ⟨wb.heap.size, 3, none⟩ = some (.slice x.A2 x.l2 x.c2) ∧ w'.cell? ⟨wb.heap.size, 5, none⟩ = some (.int .i64 x.k) ∧ w'.cell? ⟨wb.heap.size, 6, none⟩ = some (.bool x.q) ∧ w'.cell? ⟨wb.heap.size, 7, none⟩ = some (.int .i64 x.m) ∧ w'.cell? ⟨wb.heap.size, 8, none⟩ = some (.int .i64 x.s) ∧ w'.cell? ⟨wb.heap.size, 9, none⟩ = some (.string x.t) ∧ w'.cell? ⟨wb.heap.size, 10, none⟩ = some (.slice x.A3 x.l3 x.c3)) (first | exact HFS.out _ H2.out | exact HFS.out _ (Below.refl _ _).drew)
          (first | (go_at_call 42; refine (much_any W _ _ _ _ _ _ _ _ _ HV.out _ (below_on H6.out.2.2 (Below.refl _ _).drew)).mono ?_; rintro e w2 ⟨⟨z, rfl⟩, hb2⟩; have H2 := Lib.hid ((Below.refl W6.heap.size W6).drew.trans hb2); clear hb2))
        have HB6 := Lib.hid H2.out
        clear H2
        have HY : Hid (Row W StrOk 1 x.A0 x.l0 x.c0 ∧ Row W (RuleOk W) 7 x.A1 x.l1 x.c1 ∧ Row W (AVal W) 6 x.A2 x.l2 x.c2) := Lib.hid ⟨HX.out.ins, HX.out.rules, HX.out.order⟩
        have hlx0 := HY.out.1.le
        have hlx1 := HY.out.2.1.le
        have hlx2 := HY.out.2.2.le
        clear e0 e1 e2 e3 e5 e6 e7 e8 e9 e10 HFS HV
        go_upto_block 4 with fail
        go_cut [3] from 43 to 172 (fun s3 wx => (∃ y, s3 = .int .i64 y) ∧ Below W6.heap.size W6 wx)
        case first =>
          as_aux_lemma =>
            go_wp2_with fail
            go_loopg [3, 7] x.l0 (fun gg xx ii wr => ∃ jj : Nat, jj ≤ x.l0 ∧ gg + jj = x.l0 ∧ (∃ yy, xx = .int .i64 yy) ∧ ii = .int .i64 jj ∧ Below W6.heap.size W6 wr)
            case atStart => exact ⟨0, Nat.zero_le _, by omega, ⟨_, rfl⟩, rfl, HB6.out⟩
            case round =>
              obtain ⟨jb, hjb, hg, ⟨yb, rfl⟩, rfl, hb⟩ := hrel
              have HGb := Lib.hid hg
              have f1 := cell_of (stays H6.out.2.1 hb) 1
              have HBb := Lib.hid hb
              clear hb hg
              by_cases hltb : jb < x.l0
              rotate_left
              · go_wp2_with fail
                all_goals (go_meet; exact ⟨⟨_, rfl⟩, HBb.out⟩)
              by_cases hnyb : yb < 9000
              rotate_left
              · have hnyb2 : 9000 ≤ yb := by omega
                go_wp2_with fail
                all_goals (go_meet; exact ⟨⟨_, rfl⟩, HBb.out⟩)
              obtain ⟨ad2, s, e, hs, hc⟩ := HY.out.1.str hltb
              have d0 := hc wr (below_on H6.out.2.2 HBb.out)
              rw [e] at f1
              clear hc hs
              go_wp2_with fail
              go_roundg (x.l0 - (jb + 1))
              case rel => exact ⟨jb + 1, by omega, by omega, ⟨_, rfl⟩, by first | rfl | rw [w64 (by omega) hlx0], HBb.out⟩
              case measure => have := HGb.out; omega
        case rest =>
          obtain ⟨⟨yc, rfl⟩, hb⟩ := hcut
          have HB7 := Lib.hid hb
          clear hb HB6
          go_upto_block 6 with fail
          go_cut [3] from 43 to 172 (fun s3 wx => (∃ y, s3 = .int .i64 y) ∧ Below W6.heap.size W6 wx)
          case first =>
            as_aux_lemma =>
              go_wp2_with fail
              go_loopg [3, 8] x.l1 (fun gg xx ii wr => ∃ jj : Nat, jj ≤ x.l1 ∧ gg + jj = x.l1 ∧ (∃ yy, xx = .int .i64 yy) ∧ ii = .int .i64 jj ∧ Below W6.heap.size W6 wr)
              case atStart => exact ⟨0, Nat.zero_le _, by omega, ⟨_, rfl⟩, rfl, HB7.out⟩
              case round =>
                obtain ⟨jb, hjb, hg, ⟨yb, rfl⟩, rfl, hb⟩ := hrel
                have HGb := Lib.hid hg
                have f2 := cell_of (stays H6.out.2.1 hb) 2
                have HBb := Lib.hid hb
                clear hb hg
                by_cases hltb : jb < x.l1
                rotate_left
                · go_wp2_with fail
                  all_goals (go_meet; exact ⟨⟨_, rfl⟩, HBb.out⟩)
                by_cases hnyb : yb < 9000
                rotate_left
                · have hnyb2 : 9000 ≤ yb := by omega
                  go_wp2_with fail
                  all_goals (go_meet; exact ⟨⟨_, rfl⟩, HBb.out⟩)
                obtain ⟨ad2, A4, l4, c4, n, k, b, m, s, t, A5, l5, c5, e, hs, hv, hc⟩ := HY.out.2.1.rule hltb
                rw [e] at f2
                have HC := Lib.hid hc
                have HV := Lib.hid hv
                have HS := Lib.hid hs
                have hl4 := hs.le
                clear hc hv hs
                obtain ⟨d0, d1, d2, d3, d4, d5, d6⟩ := HC.out wr (below_on H6.out.2.2 HBb.out)
                have HFS : Hid (∀ w', Below wr.heap.size wr w' → w'.cell? ⟨wb.heap.size, 2, none⟩ = some (.slice (some ad2) x.l1 x.c1) ∧ w'.cell? (ad2.add (jb * 7)) = some (.slice A4 l4 c4) ∧ w'.cell? ⟨(ad2.add (jb * 7)).block, (ad2.add (jb * 7)).off + 1, none⟩ = some (.int .i64 k) ∧ w'.cell? ⟨(ad2.add (jb * 7)).block, (ad2.add (jb * 7)).off + 2, none⟩ = some (.bool b) ∧ w'.cell? ⟨(ad2.add (jb * 7)).block, (ad2.add (jb * 7)).off + 3, none⟩ = some (.int .i64 m) ∧ w'.cell? ⟨(ad2.add (jb * 7)).block, (ad2.add (jb * 7)).off + 4, none⟩ = some (.int .i64 s) ∧ w'.cell? ⟨(ad2.add (jb * 7)).block, (ad2.add (jb * 7)).off + 5, none⟩ = some (.string t) ∧ w'.cell? ⟨(ad2.add (jb * 7)).block, (ad2.add (jb * 7)).off + 6, none⟩ = some (.slice A5 l5 c5)) := Lib.hid (fun w' hb => ⟨by rw [← e]; exact cell_of (stays H6.out.2.1 (below_on HBb.out hb)) 2, HC.out w' (below_on H6.out.2.2 (below_on HBb.out hb))⟩)
                go_upto_region 18 with fail
                go_region_held3 (fun w' => w'.cell? ⟨wb.heap.size, 2, none⟩ = some (.slice (some ad2) x.l1 x.c1) ∧ w'.cell? (ad2.add (jb * 7)) = some (.slice A4 l4 c4) ∧ w'.cell? ⟨(ad2.add (jb * 7)).block, (ad2.add (jb * 7)).off + 1, none⟩ = some (.int .i64 k) ∧ w'.cell? ⟨(ad2.add (jb * 7)).block, (ad2.add (jb * 7)).off + 2, none⟩ = some (.bool b) ∧ w'.cell? ⟨(ad2.add (jb * 7)).block, (ad2.add (jb * 7)).off + 3, none⟩ = some (.int .i64 m) ∧ w'.cell? ⟨(ad2.add (jb * 7)).block, (ad2.add (jb * 7)).off + 4, none⟩ = some (.int .i64 s) ∧ w'.cell? ⟨(ad2.add (jb * 7)).block, (ad2.add (jb * 7)).off + 5, none⟩ = some (.string t) ∧ w'.cell? ⟨(ad2.add (jb * 7)).block, (ad2.add (jb * 7)).off + 6, none⟩ = some (.slice A5 l5 c5)) (first | exact HFS.out _ H2.out | exact HFS.out _ (Below.refl _ _).drew)
                  (first | (go_at_call 42; refine (much_any W _ _ _ _ _ _ _ _ _ HV.out _ (below_on H6.out.2.2 (below_on HBb.out (Below.refl _ _).drew))).mono ?_; rintro e w2 ⟨⟨z, rfl⟩, hb2⟩; have H2 := Lib.hid ((Below.refl wr.heap.size wr).drew.trans hb2); clear hb2))
                have HB8 := Lib.hid (below_on HBb.out H2.out)
                clear H2 HFS d0 d1 d2 d3 d4 d5 d6 f2
                go_wp2_with fail
                go_loopg [3, 9] l4 (fun gg xx ii wr => ∃ jj : Nat, jj ≤ l4 ∧ gg + jj = l4 ∧ (∃ yy, xx = .int .i64 yy) ∧ ii = .int .i64 jj ∧ Below W6.heap.size W6 wr)
                case atStart => exact ⟨0, Nat.zero_le _, by omega, ⟨_, rfl⟩, rfl, HB8.out⟩
                case round =>
                  obtain ⟨jc, hjc, hg, ⟨yc, rfl⟩, rfl, hb⟩ := hrel
                  have HGc := Lib.hid hg
                  have f2 := cell_of (stays H6.out.2.1 hb) 2
                  rw [e] at f2
                  have f0 := (HC.out wr (below_on H6.out.2.2 hb)).1
                  have HBc := Lib.hid hb
                  clear hb hg
                  by_cases hltc : jc < l4
                  rotate_left
                  · go_wp2_with fail
                    all_goals
                      go_roundg (x.l1 - (jb + 1))
                      case rel => exact ⟨jb + 1, by omega, by omega, ⟨_, rfl⟩, by first | rfl | rw [w64 (by omega) hlx1], HBc.out⟩
                      case measure => have := HGb.out; omega
                  by_cases hnyc : yc < 9000
                  rotate_left
                  · have hnyc2 : 9000 ≤ yc := by omega
                    go_wp2_with fail
                    all_goals
                      go_roundg (x.l1 - (jb + 1))
                      case rel => exact ⟨jb + 1, by omega, by omega, ⟨_, rfl⟩, by first | rfl | rw [w64 (by omega) hlx1], HBc.out⟩
                      case measure => have := HGb.out; omega
                  obtain ⟨ad3, s', e', hs', hc'⟩ := HS.out.str hltc
                  have g0 := hc' wr (below_on H6.out.2.2 HBc.out)
                  rw [e'] at f0
                  clear hc' hs'
                  go_wp2_with fail
                  go_roundg (l4 - (jc + 1))
                  case rel => exact ⟨jc + 1, by omega, by omega, ⟨_, rfl⟩, by first | rfl | rw [w64 (by omega) hl4], HBc.out⟩
                  case measure => have := HGc.out; omega
          case rest =>
            obtain ⟨⟨yc, rfl⟩, hb⟩ := hcut
            have HB8 := Lib.hid hb
            clear hb HB7
            as_aux_lemma =>
            go_wp2_with fail
            go_loopg [3, 10] x.l2 (fun gg xx ii wr => ∃ jj : Nat, jj ≤ x.l2 ∧ gg + jj = x.l2 ∧ (∃ yy, xx = .int .i64 yy) ∧ ii = .int .i64 jj ∧ Below W6.heap.size W6 wr)
            case atStart => exact ⟨0, Nat.zero_le _, by omega, ⟨_, rfl⟩, rfl, HB8.out⟩
            case round =>
              obtain ⟨jb, hjb, hg, ⟨yb, rfl⟩, rfl, hb⟩ := hrel
              have HGb := Lib.hid hg
              have f3 := cell_of (stays H6.out.2.1 hb) 3
              have HBb := Lib.hid hb
              clear hb hg
              by_cases hltb : jb < x.l2
              rotate_left
              · go_wp2_with fail
                all_goals
                  go_roundg (l1 - (j + 1))
                  case rel => exact ⟨j + 1, by omega, by omega, ⟨_, rfl⟩, by first | rfl | rw [w64 (by omega) hle1], (H6.out.1.trans (HBb.out.mono H6.out.1.size))⟩
                  case measure => have := HG.out; omega
              by_cases hnyb : yb < 9000
              rotate_left
              · have hnyb2 : 9000 ≤ yb := by omega
                go_wp2_with fail
                all_goals
                  go_roundg (l1 - (j + 1))
                  case rel => exact ⟨j + 1, by omega, by omega, ⟨_, rfl⟩, by first | rfl | rw [w64 (by omega) hle1], (H6.out.1.trans (HBb.out.mono H6.out.1.size))⟩
                  case measure => have := HG.out; omega
              obtain ⟨ad2, n, k, b, m, s, t, A5, l5, c5, e, hv, hc⟩ := HY.out.2.2.aval hltb
              rw [e] at f3
              obtain ⟨d0, d1, d2, d3, d4, d5⟩ := hc wr (below_on H6.out.2.2 HBb.out)
              obtain ⟨n, rfl⟩ := Nat.exists_eq_succ_of_ne_zero (n := n) (by rintro rfl; exact hv)
              have HM := Lib.hid (much_any W n k b m s t A5 l5 c5 hv wr (below_on H6.out.2.2 HBb.out))
              clear hc hv
              go_wp2_with fail
              refine HM.out.mono ?_
              rintro e w2 ⟨⟨z, rfl⟩, hb2⟩
              have HBd := Lib.hid (below_on HBb.out hb2)
              clear hb2 HM
              go_wp2_with fail
              go_roundg (x.l2 - (jb + 1))
              case rel => exact ⟨jb + 1, by omega, by omega, ⟨_, rfl⟩, by first | rfl | rw [w64 (by omega) hlx2], HBd.out⟩
              case measure => have := HGb.out; omega
    case rest =>
      obtain ⟨⟨y0, rfl⟩, hb⟩ := hcut
      have HB1 := Lib.hid hb
      clear hb HB0
      as_aux_lemma =>
      go_upto_block 12 with fail
      go_wp2_with fail
      go_loopg [3, 11] l2 (fun gg xx ii wr => ∃ jj : Nat, jj ≤ l2 ∧ gg + jj = l2 ∧ (∃ yy, xx = .int .i64 yy) ∧ ii = .int .i64 jj ∧ Below W1.heap.size W1 wr)
      case atStart => exact ⟨0, Nat.zero_le _, by omega, ⟨_, rfl⟩, rfl, HB1.out⟩
      case round =>
        obtain ⟨j, hj, hg, ⟨y, rfl⟩, rfl, hb⟩ := hrel
        have HG := Lib.hid hg
        have m2 := cell_of (stays H1.out.2.1 hb) 2
        have HB := Lib.hid hb
        clear hb hg
        by_cases hlt : j < l2
        rotate_left
        · go_wp2_with fail
          all_goals (go_ret; exact ⟨retB _, H1.out.1.trans (HB.out.mono H1.out.1.size)⟩)
        by_cases hny : y < 9000
        rotate_left
        · have hny2 : 9000 ≤ y := by omega
          go_wp2_with fail
          all_goals (go_ret; exact ⟨retB _, H1.out.1.trans (HB.out.mono H1.out.1.size)⟩)
        obtain ⟨ad, x, rfl, hx, hc⟩ := HP.out.item hlt
        have HX := Lib.hid hx
        have HC := Lib.hid hc
        clear hx hc
        obtain ⟨d0, -, -, d3, d4, -, -, -⟩ := HC.out wr (below_on H1.out.2.2 HB.out)
        have HFS : Hid (∀ w', Below wr.heap.size wr w' → w'.cell? ⟨w.heap.size, 2, none⟩ = some (.slice (some ad) l2 c2) ∧ w'.cell? (ad.add (j * 8)) = some (.string x.s) ∧ w'.cell? ⟨(ad.add (j * 8)).block, (ad.add (j * 8)).off + 3, none⟩ = some (.slice x.A0 x.l0 x.c0) ∧ w'.cell? ⟨(ad.add (j * 8)).block, (ad.add (j * 8)).off + 4, none⟩ = some (.slice x.A1 x.l1 x.c1)) := Lib.hid (fun w' hb => by
          obtain ⟨d0, -, -, d3, d4, -, -, -⟩ := HC.out w' (below_on H1.out.2.2 (below_on HB.out hb))
          exact ⟨cell_of (stays H1.out.2.1 (below_on HB.out hb)) 2, d0, d3, d4⟩)
        have GA : Hid (∀ w', Below wr.heap.size wr w' → Calls Try.prog 43 #[.slice x.A0 x.l0 x.c0] w' (fun e w2 => RetI e ∧ Below w'.heap.size w' w2 ∧ Below wr.heap.size wr w2)) := Lib.hid (fun w' hb => (guards_any W x.A0 x.l0 x.c0 HX.out.entry w' (below_on H1.out.2.2 (below_on HB.out hb))).mono fun e w2 ⟨h1, h2⟩ => ⟨h1, h2, below_on hb h2⟩)
        have GB : Hid (∀ w', Below wr.heap.size wr w' → Calls Try.prog 43 #[.slice x.A1 x.l1 x.c1] w' (fun e w2 => RetI e ∧ Below w'.heap.size w' w2 ∧ Below wr.heap.size wr w2)) := Lib.hid (fun w' hb => (guards_any W x.A1 x.l1 x.c1 HX.out.exit w' (below_on H1.out.2.2 (below_on HB.out hb))).mono fun e w2 ⟨h1, h2⟩ => ⟨h1, h2, below_on hb h2⟩)
        have HD : Hid (Below wr.heap.size wr wr.drew) := Lib.hid (Below.refl _ _).drew
        go_upto_region 30 with fail
        go_region_held3 (fun w' => w'.cell? ⟨w.heap.size, 2, none⟩ = some (.slice (some ad) l2 c2) ∧ w'.cell? (ad.add (j * 8)) = some (.string x.s) ∧ w'.cell? ⟨(ad.add (j * 8)).block, (ad.add (j * 8)).off + 3, none⟩ = some (.slice x.A0 x.l0 x.c0) ∧ w'.cell? ⟨(ad.add (j * 8)).block, (ad.add (j * 8)).off + 4, none⟩ = some (.slice x.A1 x.l1 x.c1)) (first | exact HFS.out _ H2.out | exact HFS.out _ HD.out)
          (first
          | (go_at_call 43; (with_reducible refine (GA.out _ H2.out).mono ?_); rintro e w2 ⟨⟨z, rfl⟩, -, hb2⟩; have H2 := Lib.hid hb2; clear hb2)
          | (go_at_call 43; (with_reducible refine (GA.out _ HD.out).mono ?_); rintro e w2 ⟨⟨z, rfl⟩, -, hb2⟩; have H2 := Lib.hid hb2; clear hb2)
          | (go_at_call 43; (with_reducible refine (GB.out _ H2.out).mono ?_); rintro e w2 ⟨⟨z, rfl⟩, -, hb2⟩; have H2 := Lib.hid hb2; clear hb2)
          | (go_at_call 43; (with_reducible refine (GB.out _ HD.out).mono ?_); rintro e w2 ⟨⟨z, rfl⟩, -, hb2⟩; have H2 := Lib.hid hb2; clear hb2))
        all_goals
          have HBe := Lib.hid (below_on HB.out H2.out)
          clear HFS GA GB HD H2 d0 d3 d4 m2
          go_wp2_with fail
          go_roundg (l2 - (j + 1))
          case rel => exact ⟨j + 1, by omega, by omega, ⟨_, rfl⟩, by first | rfl | rw [w64 (by omega) hle2], HBe.out⟩
          case measure => have := HG.out; omega
end Go.Proofs.Ytaddhackggbdkaa
