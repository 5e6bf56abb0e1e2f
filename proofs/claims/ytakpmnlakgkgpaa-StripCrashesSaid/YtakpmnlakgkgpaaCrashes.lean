/- StripCrashes, walked: it answers true whatever the script and what the crash keeps; condition: the list's cells lie in the world. -/
import Derived.Test.YtakpmnlakgkgpaaFuses
import Derived.Deep.RegionWith
import Derived.Deep.CutRange
import Derived.Deep.Light
import Derived.Test.YtakpmnlakgkgpaaShut
namespace Go.Proofs.Ytakpmnlakgkgpaa
open Go.RowKit
theorem has_crash2 {w0 w : World} {q : Nat} {S : St} (h : Has w0 w q S) (keep : Int) : Calls Try.prog 23 #[.pointer (some ⟨q, 0, none⟩), .int .i64 keep] w fun e w' => ∃ q2, e = .returned (.pointer (some ⟨q2, 0, none⟩)) ∧ Has w w' q2 (S.crash keep) := by
  obtain ⟨hf, hq, hb0, v, hS⟩ := h
  refine (crash_calls _ q v S keep w hS hf).mono ?_
  rintro e w1 ⟨q2, v', rfl, hq2, h1, hb⟩
  exact ⟨q2, rfl, crash_fit hf keep, hq2, hb, v', h1⟩
theorem own_keep {w w' : World} {B n : Nat} {v : Value} {xs : List Value} (h : w.ownsRow B 5 1 v n xs) (hb : Below w.heap.size w w') : w'.ownsRow B 5 1 v n xs := own_stay h fun g hg => hb.block g (h.lt g hg).2
/-- Sync of a strip that was made before the world at hand: what has come since stands. -/
theorem has_sync2 {w0 wm w : World} {q : Nat} {S : St} (h : Has w0 wm q S) (hb : Below wm.heap.size wm w) : Calls Try.prog 13 #[.pointer (some ⟨q, 0, none⟩)] w fun e w' => e = .returned (.int .i64 S.sync.2) ∧ Has w0 w' q S.sync.1 ∧ ∀ i, wm.heap.size ≤ i → i < w.heap.size → w'.heap[i]? = w.heap[i]? := by
  obtain ⟨hf, hq, hb0, v, hS⟩ := h
  have hlt := hS.lt
  have hS' : SAt w w0.heap.size q v S := ⟨by rw [hb.block q hlt]; exact hS.1, own_keep hS.2 hb⟩
  refine (sync_calls _ q v S w hS' hf).mono ?_
  rintro e w1 ⟨rfl, h1, k1⟩
  exact ⟨rfl, Has.step hq (hb0.trans (hb.mono hb0.size)) hS' (sync_fit hf) h1 k1, fun i h1 h2 => k1.block i h2 (by omega) (fun e => by have := (hS.2.lt i e.symm).2; omega)⟩
theorem own_cap {w : World} {B n c : Nat} {x : Option Addr} {l : List Value} (h : w.ownsRow B 5 1 (.slice x n c) n l) : n ≤ c := by
  rcases h.2 with ⟨hv, h0⟩ | ⟨g, cap, cur, hv, hb, hh, e1, e2, e3, e4⟩
  · injection hv with e1 e2 e3
    omega
  · injection hv with e1' e2' e3'
    omega
theorem crash_facts {S : St} {L : List UInt8} {sf mk mn : Nat} {keep : Int} (hL : S.L = L) (hs : S.safe = sf) (hk : max keep 0 = (mk : Int)) (hn : min (mk : Int) ((L.length : Int) - (sf : Int)) = (mn : Int)) (hw : sf + mn ≤ L.length) :
    (S.crash keep).L = L.take (sf + mn) ∧ (L.take (sf + mn)).length = sf + mn ∧ (S.crash keep).safe = sf + mn ∧ (S.crash keep).sync.2 = 0 := by
  have hkept : S.kept keep = sf + mn := by
    simp only [St.kept, hL, hs]
    omega
  refine ⟨?_, ?_, ?_, ?_⟩
  · simp only [St.crash, hkept, hL]
  · rw [List.length_take]
    omega
  · simp only [St.crash, hkept]
  · simp [St.sync, St.crash, St.live]
theorem crash_facts' {S : St} {L : List UInt8} {sf mk mn wt : Nat} {keep : Int} (hL : S.L = L) (hs : S.safe = sf) (hk : max keep 0 = (mk : Int)) (hn : min (mk : Int) ((L.length : Int) - (sf : Int)) = (mn : Int)) (hwt : sf + mn = wt) (hw : wt ≤ L.length) :
    (S.crash keep).L = L.take wt ∧ (L.take wt).length = wt ∧ (S.crash keep).safe = wt ∧ (S.crash keep).sync.2 = 0 := by
  subst hwt
  exact crash_facts hL hs hk hn hw
set_option maxRecDepth 100000 in
set_option maxHeartbeats 4000000 in
theorem crashes_walk (a : Option Addr) (len cap : Nat) (z : Nat → AV) (keep : Int) (w : World) (hz : Lst w a len z) (hl : len * 40 ≤ 140737488351232) (_ : (Lit.int .i64 keep).wf = true) :
    Calls Try.prog 6 #[.slice a len cap, .int .i64 keep] w fun e w' => e = .returned (.bool true) ∧ Below w.heap.size w w' := by
  have HZ := Lib.hid hz
  have hlong := long_calls a len cap z w hz hl
  clear hz
  go_enter Try.func6, Try.ntmps6
  go_wp2_with fail
  refine hlong.mono ?_
  rintro e w0 ⟨b, rfl, rfl⟩
  clear hlong
  cases b with
  | true =>
    go_wp2_with fail
    go_ret
    exact ⟨rfl, Below.refl _ _⟩
  | false =>
    go_wp2_with fail
    refine (has_new w 1000 _ (Below.refl _ _)).mono ?_
    rintro e w1 ⟨q, rfl, h1', -⟩
    have H1 := Lib.hid h1'
    clear h1'
    go_wp2_with fail
    go_loopg [6] 80 (fun g i wr => ∃ (k : Nat) (S : St), k ≤ len ∧ k ≤ 80 ∧ g + k = 80 ∧ i = .int .i64 k ∧ Has w wr q S)
    case atStart => exact ⟨0, St.new 1000, by omega, by omega, rfl, rfl, H1.out⟩
    case round =>
      obtain ⟨k, S, hk, hk80, hg, rfl, hH⟩ := hrel
      have HG := Lib.hid hg
      have HH := Lib.hid hH
      clear hg hH
      by_cases hgo : k < len ∧ k < 80
      · obtain ⟨h1, h2⟩ := hgo
        obtain ⟨ad, rfl, hb, hi⟩ := HZ.out k h1
        have hck := cell_below HH.out.bel (by rw [add_block]; exact hb) hi.k
        have hcn := cell_below HH.out.bel (by rw [add_block]; exact hb) hi.n
        have hcp := cell_below HH.out.bel (by rw [add_block]; exact hb) hi.p
        rw [add_fld ad (k * 3) 1 (by omega)] at hcn
        rw [add_fld ad (k * 3) 2 (by omega)] at hcp
        have HI := Lib.hid hi
        clear hi
        generalize z k = x at *
        obtain ⟨K, N, A, C, P⟩ := x
        simp only at hck hcn hcp
        by_cases hK1 : K = 1
        · subst hK1
          go_wp2_with fail
          refine (has_write HH.out A C P (src_below HI.out.src HI.out.old HH.out.bel) HI.out.old HI.out.nil HI.out.len).mono ?_
          rintro e w3 ⟨rfl, h3⟩
          have H3 := Lib.hid h3
          clear h3 hck hcn hcp
          go_wp2_with fail
          go_roundg (80 - (k + 1))
          case rel => exact ⟨k + 1, _, by omega, by omega, by omega, by go_num, H3.out⟩
          case measure => have := HG.out; omega
        · by_cases hK2 : K = 2
          · subst hK2
            go_wp2_with fail
            refine (has_sync HH.out).mono ?_
            rintro e w3 ⟨rfl, h3⟩
            have H3 := Lib.hid h3
            clear h3 hck hcn hcp
            go_wp2_with fail
            go_roundg (80 - (k + 1))
            case rel => exact ⟨k + 1, _, by omega, by omega, by omega, by go_num, H3.out⟩
            case measure => have := HG.out; omega
          · by_cases hK3 : K = 3
            · subst hK3
              go_wp2_with fail
              refine (has_cut HH.out N).mono ?_
              rintro e w3 ⟨rfl, h3⟩
              have H3 := Lib.hid h3
              clear h3 hck hcn hcp
              go_wp2_with fail
              go_roundg (80 - (k + 1))
              case rel => exact ⟨k + 1, _, by omega, by omega, by omega, by go_num, H3.out⟩
              case measure => have := HG.out; omega
            · go_wp2_with fail
              refine (has_fuse HH.out N HI.out.hi).mono ?_
              rintro e w3 ⟨rfl, h3⟩
              have H3 := Lib.hid h3
              clear h3 hck hcn hcp
              go_wp2_with fail
              go_roundg (80 - (k + 1))
              case rel => exact ⟨k + 1, _, by omega, by omega, by omega, by go_num, H3.out⟩
              case measure => have := HG.out; omega
      · have hfit1 := HH.out.fit.safe
        have hfit2 := HH.out.fit.len
        have hfit3 := HH.out.fit.room
        obtain ⟨L, hSL⟩ : ∃ L, S.L = L := ⟨_, rfl⟩
        obtain ⟨sf, hsf⟩ : ∃ sf, S.safe = sf := ⟨_, rfl⟩
        rw [hSL] at hfit1 hfit2
        rw [hsf] at hfit1
        obtain ⟨mk, hmk⟩ : ∃ mk : Nat, max keep 0 = (mk : Int) := ⟨keep.toNat, by omega⟩
        obtain ⟨mn, hmn⟩ : ∃ mn : Nat, min (mk : Int) ((L.length : Int) - (sf : Int)) = (mn : Int) := ⟨min mk (L.length - sf), by omega⟩
        obtain ⟨wt, hwt⟩ : ∃ wt, sf + mn = wt := ⟨_, rfl⟩
        have hw1 : wt ≤ L.length := by omega
        have HT : Hid ((S.crash keep).L = L.take (wt) ∧ (L.take (wt)).length = wt ∧ (S.crash keep).safe = wt ∧ (S.crash keep).sync.2 = 0) := Lib.hid (crash_facts' hSL hsf hmk hmn hwt hw1)
        have hlen : L.length ≤ 65536 := by omega
        clear hfit2 hfit3
        have HMK := Lib.hid hmk
        have HMN := Lib.hid (And.intro hmn hwt)
        clear hmk hmn hwt
        by_cases hlt : k < len
        · have h80 : 80 ≤ (k : Int) := by omega
          go_wp2_with fail
          refine (has_read HH.out).mono ?_
          rintro e w4 ⟨x4, c4, rfl, ho4, h4, -⟩
          rw [hSL] at ho4
          rw [hSL]
          have H4 := Lib.hid h4
          have HO4 := Lib.hid ho4
          have hc4 := own_cap ho4
          clear h4 ho4
          go_wp2_with fail
          refine (has_safe H4.out).mono ?_
          rintro e w5 ⟨rfl, rfl⟩
          rw [hsf]
          go_wp2_with fail
          refine (has_crash2 H4.out keep).mono ?_
          rintro e w6 ⟨q2, rfl, h6⟩
          have H6 := Lib.hid h6
          clear h6
          go_wp2_with fail
          refine (has_read H6.out).mono ?_
          rintro e w7 ⟨x7, c7, rfl, ho7, h7, hb7⟩
          have HB7 := Lib.hid hb7
          clear hb7
          rw [HT.out.1] at ho7
          rw [HT.out.1, HT.out.2.1]
          have H7 := Lib.hid h7
          have HO7 := Lib.hid ho7
          clear h7 ho7
          go_upto_region 22 with fail
          go_cut [11] from 82 to 90 (fun s11 wx => s11 = .int .i64 ((wt : Nat) : Int) ∧ w7 = wx)
          case first =>
            by_cases hkp : keep < 0
            · have hq1 : (0 : Int) ≤ (L.length : Int) - (sf : Int) := by omega
              go_wp2_with fail
              all_goals
                go_meet
                refine ⟨?_, rfl⟩
                have := HMK.out
                obtain ⟨hq2, hq3⟩ := HMN.out
                go_num
            · by_cases hkq : keep ≤ (L.length : Int) - (sf : Int)
              · go_wp2_with fail
                all_goals
                  go_meet
                  refine ⟨?_, rfl⟩
                  have := HMK.out
                  obtain ⟨hq2, hq3⟩ := HMN.out
                  go_num
              · go_wp2_with fail
                all_goals
                  go_meet
                  refine ⟨?_, rfl⟩
                  have := HMK.out
                  obtain ⟨hq2, hq3⟩ := HMN.out
                  go_num
          case rest =>
            obtain ⟨rfl, rfl⟩ := hcut
            clear HMK HMN
            go_wp2_with fail
            have hT1 := HT.out.2.1
            have HR7 : Hid (w7.drew.ownsRow w6.heap.size 5 1 (.slice x7 (wt) c7) (wt) (bys (L.take (wt))) ∧ w7.drew.ownsRow wr.heap.size 5 1 (.slice x4 L.length c4) L.length (bys L)) := by
              have h7 := own_keep HO7.out (below_drewN (Below.refl _ w7) 1)
              rw [hT1] at h7
              exact Lib.hid ⟨h7, own_keep HO4.out (H7.out.drewN 1).bel⟩
            have hb1 : (0 : Int) ≤ ((wt : Nat) : Int) := by omega
            have hb2 : ((wt : Nat) : Int) ≤ (c4 : Int) := by omega
            have hsafe : Calls Try.prog 15 #[.pointer (some ⟨q2, 0, none⟩)] w7.drew _ := has_safe (H7.out.drewN 1)
            have hsync : Calls Try.prog 13 #[.pointer (some ⟨q2, 0, none⟩)] w7.drew _ := has_sync2 H6.out (w := w7.drew) (below_drewN HB7.out 1)
            rw [HT.out.2.2.1] at hsafe
            rw [HT.out.2.2.2] at hsync
            have MK : ∀ w', (w'.ownsRow w6.heap.size 5 1 (.slice x7 (wt) c7) (wt) (bys (L.take (wt))) ∧ w'.ownsRow wr.heap.size 5 1 (.slice x4 L.length c4) L.length (bys L)) → (convert 26 9 (.slice x7 (wt) c7)).run Try.prog w' = .ok (.string ⟨(L.take (wt)).toArray⟩) w' ∧ (convert 26 9 (.slice x4 (wt) c4)).run Try.prog w' = .ok (.string ⟨(L.take (wt)).toArray⟩) w' ∧ (convert 26 9 (.slice x4 L.length c4)).run Try.prog w' = .ok (.string ⟨L.toArray⟩) w' := fun w' h =>
              ⟨str_of h.1, by have := own_cut h.2 hw1; rw [hT1] at this; exact str_of this, str_of h.2⟩
            have HMK := Lib.hid MK
            clear MK hT1
            go_cut [4] from 91 to 125 (fun s4 wx => s4 = .bool true ∧ Below w.heap.size w wx)
            case first =>
              clear HZ HH HG hgo H1 hlt hl hk hk80
              go_region_held3 (fun w' => (convert 26 9 (.slice x7 (wt) c7)).run Try.prog w' = .ok (.string ⟨(L.take (wt)).toArray⟩) w' ∧ (convert 26 9 (.slice x4 (wt) c4)).run Try.prog w' = .ok (.string ⟨(L.take (wt)).toArray⟩) w' ∧ (convert 26 9 (.slice x4 L.length c4)).run Try.prog w' = .ok (.string ⟨L.toArray⟩) w')
                (first | assumption | exact HMK.out _ HR7.out | exact HMK.out _ HR8.out | exact ⟨HMK.out _ HR9.out.1, str_of HR9.out.2⟩ | exact ⟨HMK.out _ HR10.out.1, str_of HR10.out.2⟩)
                (first
                | (go_at_call 15; refine hsafe.mono ?_; rintro e w8 ⟨rfl, rfl⟩)
                | (go_at_call 13; refine hsync.mono ?_; rintro e w8 ⟨rfl, h8, hk8⟩; have H8 : Hid (Has w4 w8 q2 _) := Lib.hid h8; have HR8 : Hid (w8.ownsRow w6.heap.size 5 1 (.slice x7 (wt) c7) (wt) (bys (L.take (wt))) ∧ w8.ownsRow wr.heap.size 5 1 (.slice x4 L.length c4) L.length (bys L)) := Lib.hid ⟨own_stay HR7.out.1 (fun g hg => hk8 g (HR7.out.1.lt g hg).1 (HR7.out.1.lt g hg).2), own_keep HO4.out h8.bel⟩; clear h8 hk8 hsafe hsync)
                | (go_at_call 11; refine (has_read (H4.out.below H8.out.bel)).mono ?_; rintro e w9 ⟨x9, c9, rfl, ho9, h9, hb9⟩; rw [hSL] at ho9; simp only [hSL]; have HR9 := Lib.hid (And.intro (And.intro (own_keep HR8.out.1 hb9) (own_keep HR8.out.2 hb9)) ho9); have H9 := Lib.hid h9; clear ho9 h9 hb9; rw [shut_eq ‹Shut _› (fun w' => (convert 26 9 (.slice x9 L.length c9)).run Try.prog w' = .ok (.string ⟨L.toArray⟩) w')] at *)
                | (go_at_call 12; refine (known_true _).mono ?_; rintro e w10 ⟨rfl, hb10⟩; have H10 := Lib.hid (H9.out.below hb10); have HR10 := Lib.hid (And.intro (And.intro (own_keep HR9.out.1.1 hb10) (own_keep HR9.out.1.2 hb10)) (own_keep HR9.out.2 hb10)); clear hb10))
              all_goals
                go_wp2_with fail
                go_meet
                exact ⟨rfl, H10.out.bel⟩
            case rest =>
              obtain ⟨rfl, hbe⟩ := hcut
              go_wp2_with fail
              go_ret
              exact ⟨rfl, hbe⟩
        · go_wp2_with fail
          refine (has_read HH.out).mono ?_
          rintro e w4 ⟨x4, c4, rfl, ho4, h4, -⟩
          rw [hSL] at ho4
          rw [hSL]
          have H4 := Lib.hid h4
          have HO4 := Lib.hid ho4
          have hc4 := own_cap ho4
          clear h4 ho4
          go_wp2_with fail
          refine (has_safe H4.out).mono ?_
          rintro e w5 ⟨rfl, rfl⟩
          rw [hsf]
          go_wp2_with fail
          refine (has_crash2 H4.out keep).mono ?_
          rintro e w6 ⟨q2, rfl, h6⟩
          have H6 := Lib.hid h6
          clear h6
          go_wp2_with fail
          refine (has_read H6.out).mono ?_
          rintro e w7 ⟨x7, c7, rfl, ho7, h7, hb7⟩
          have HB7 := Lib.hid hb7
          clear hb7
          rw [HT.out.1] at ho7
          rw [HT.out.1, HT.out.2.1]
          have H7 := Lib.hid h7
          have HO7 := Lib.hid ho7
          clear h7 ho7
          go_upto_region 22 with fail
          go_cut [11] from 82 to 90 (fun s11 wx => s11 = .int .i64 ((wt : Nat) : Int) ∧ w7 = wx)
          case first =>
            by_cases hkp : keep < 0
            · have hq1 : (0 : Int) ≤ (L.length : Int) - (sf : Int) := by omega
              go_wp2_with fail
              all_goals
                go_meet
                refine ⟨?_, rfl⟩
                have := HMK.out
                obtain ⟨hq2, hq3⟩ := HMN.out
                go_num
            · by_cases hkq : keep ≤ (L.length : Int) - (sf : Int)
              · go_wp2_with fail
                all_goals
                  go_meet
                  refine ⟨?_, rfl⟩
                  have := HMK.out
                  obtain ⟨hq2, hq3⟩ := HMN.out
                  go_num
              · go_wp2_with fail
                all_goals
                  go_meet
                  refine ⟨?_, rfl⟩
                  have := HMK.out
                  obtain ⟨hq2, hq3⟩ := HMN.out
                  go_num
          case rest =>
            obtain ⟨rfl, rfl⟩ := hcut
            clear HMK HMN
            go_wp2_with fail
            have hT1 := HT.out.2.1
            have HR7 : Hid (w7.drew.ownsRow w6.heap.size 5 1 (.slice x7 (wt) c7) (wt) (bys (L.take (wt))) ∧ w7.drew.ownsRow wr.heap.size 5 1 (.slice x4 L.length c4) L.length (bys L)) := by
              have h7 := own_keep HO7.out (below_drewN (Below.refl _ w7) 1)
              rw [hT1] at h7
              exact Lib.hid ⟨h7, own_keep HO4.out (H7.out.drewN 1).bel⟩
            have hb1 : (0 : Int) ≤ ((wt : Nat) : Int) := by omega
            have hb2 : ((wt : Nat) : Int) ≤ (c4 : Int) := by omega
            have hsafe : Calls Try.prog 15 #[.pointer (some ⟨q2, 0, none⟩)] w7.drew _ := has_safe (H7.out.drewN 1)
            have hsync : Calls Try.prog 13 #[.pointer (some ⟨q2, 0, none⟩)] w7.drew _ := has_sync2 H6.out (w := w7.drew) (below_drewN HB7.out 1)
            rw [HT.out.2.2.1] at hsafe
            rw [HT.out.2.2.2] at hsync
            have MK : ∀ w', (w'.ownsRow w6.heap.size 5 1 (.slice x7 (wt) c7) (wt) (bys (L.take (wt))) ∧ w'.ownsRow wr.heap.size 5 1 (.slice x4 L.length c4) L.length (bys L)) → (convert 26 9 (.slice x7 (wt) c7)).run Try.prog w' = .ok (.string ⟨(L.take (wt)).toArray⟩) w' ∧ (convert 26 9 (.slice x4 (wt) c4)).run Try.prog w' = .ok (.string ⟨(L.take (wt)).toArray⟩) w' ∧ (convert 26 9 (.slice x4 L.length c4)).run Try.prog w' = .ok (.string ⟨L.toArray⟩) w' := fun w' h =>
              ⟨str_of h.1, by have := own_cut h.2 hw1; rw [hT1] at this; exact str_of this, str_of h.2⟩
            have HMK := Lib.hid MK
            clear MK hT1
            go_cut [4] from 91 to 125 (fun s4 wx => s4 = .bool true ∧ Below w.heap.size w wx)
            case first =>
              clear HZ HH HG hgo H1 hlt hl hk hk80
              go_region_held3 (fun w' => (convert 26 9 (.slice x7 (wt) c7)).run Try.prog w' = .ok (.string ⟨(L.take (wt)).toArray⟩) w' ∧ (convert 26 9 (.slice x4 (wt) c4)).run Try.prog w' = .ok (.string ⟨(L.take (wt)).toArray⟩) w' ∧ (convert 26 9 (.slice x4 L.length c4)).run Try.prog w' = .ok (.string ⟨L.toArray⟩) w')
                (first | assumption | exact HMK.out _ HR7.out | exact HMK.out _ HR8.out | exact ⟨HMK.out _ HR9.out.1, str_of HR9.out.2⟩ | exact ⟨HMK.out _ HR10.out.1, str_of HR10.out.2⟩)
                (first
                | (go_at_call 15; refine hsafe.mono ?_; rintro e w8 ⟨rfl, rfl⟩)
                | (go_at_call 13; refine hsync.mono ?_; rintro e w8 ⟨rfl, h8, hk8⟩; have H8 : Hid (Has w4 w8 q2 _) := Lib.hid h8; have HR8 : Hid (w8.ownsRow w6.heap.size 5 1 (.slice x7 (wt) c7) (wt) (bys (L.take (wt))) ∧ w8.ownsRow wr.heap.size 5 1 (.slice x4 L.length c4) L.length (bys L)) := Lib.hid ⟨own_stay HR7.out.1 (fun g hg => hk8 g (HR7.out.1.lt g hg).1 (HR7.out.1.lt g hg).2), own_keep HO4.out h8.bel⟩; clear h8 hk8 hsafe hsync)
                | (go_at_call 11; refine (has_read (H4.out.below H8.out.bel)).mono ?_; rintro e w9 ⟨x9, c9, rfl, ho9, h9, hb9⟩; rw [hSL] at ho9; simp only [hSL]; have HR9 := Lib.hid (And.intro (And.intro (own_keep HR8.out.1 hb9) (own_keep HR8.out.2 hb9)) ho9); have H9 := Lib.hid h9; clear ho9 h9 hb9; rw [shut_eq ‹Shut _› (fun w' => (convert 26 9 (.slice x9 L.length c9)).run Try.prog w' = .ok (.string ⟨L.toArray⟩) w')] at *)
                | (go_at_call 12; refine (known_true _).mono ?_; rintro e w10 ⟨rfl, hb10⟩; have H10 := Lib.hid (H9.out.below hb10); have HR10 := Lib.hid (And.intro (And.intro (own_keep HR9.out.1.1 hb10) (own_keep HR9.out.1.2 hb10)) (own_keep HR9.out.2 hb10)); clear hb10))
              all_goals
                go_wp2_with fail
                go_meet
                exact ⟨rfl, H10.out.bel⟩
            case rest =>
              obtain ⟨rfl, hbe⟩ := hcut
              go_wp2_with fail
              go_ret
              exact ⟨rfl, hbe⟩
end Go.Proofs.Ytakpmnlakgkgpaa
