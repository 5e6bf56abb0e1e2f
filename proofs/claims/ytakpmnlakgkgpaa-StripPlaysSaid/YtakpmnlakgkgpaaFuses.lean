/- StripFuses, walked: it answers true whatever the fuse and the script; condition: the list's cells lie in the world. -/
import Derived.Test.YtakpmnlakgkgpaaLong
namespace Go.Proofs.Ytakpmnlakgkgpaa
open Go.RowKit
theorem src_below {w w' : World} {a : Option Addr} {p : List UInt8} (h : Src w a p) (ho : ∀ ad, a = some ad → p ≠ [] → ad.block < w.heap.size) (hb : Below w.heap.size w w') : Src w' a p :=
  h.mono fun ad j u e hne hc => cell_below hb (by rw [add_block]; exact ho ad e hne) hc
/-- What write, sync and cut have in common. -/
theorem write_no {S : St} (p : List UInt8) (h : S.live = false) : S.write p = (S.tick, 11) := by simp [St.write, h]
theorem sync_no {S : St} (h : S.live = false) : S.sync = (S.tick, 11) := by simp [St.sync, h]
theorem cut_no {S : St} (n : Int) (h : S.live = false) : S.cut n = (S.tick, 11) := by simp [St.cut, h]
structure Rest (S T : St) : Prop where
  dead : T.dead = S.dead
  fuse : T.fuse = S.fuse
theorem write_rest (S : St) (p : List UInt8) : Rest S.tick (S.write p).1 := by
  unfold St.write
  split
  · exact ⟨rfl, rfl⟩
  · split <;> exact ⟨rfl, rfl⟩
theorem sync_rest (S : St) : Rest S.tick S.sync.1 := by
  unfold St.sync
  split <;> exact ⟨rfl, rfl⟩
theorem cut_rest (S : St) (n : Int) : Rest S.tick (S.cut n).1 := by
  unfold St.cut
  split
  · exact ⟨rfl, rfl⟩
  · split <;> exact ⟨rfl, rfl⟩
theorem write_code {S : St} (p : List UInt8) (h : S.live = true) : (S.write p).2 = 0 ∨ (S.write p).2 = 8 := by
  simp only [St.write, h]
  rw [if_neg (by decide)]
  split <;> simp
theorem sync_code {S : St} (h : S.live = true) : S.sync.2 = 0 := by
  simp [St.sync, h]
theorem cut_code {S : St} (n : Int) (h : S.live = true) : (S.cut n).2 = 0 ∨ (S.cut n).2 = 1 := by
  simp only [St.cut, h]
  rw [if_neg (by decide)]
  split <;> simp
/-- A strip on which so many acts are left. -/
def FI (S : St) (left : Nat) : Prop := (S.dead = false ∧ S.fuse = (left : Int)) ∨ (S.dead = true ∧ left = 0)
theorem FI.live {S : St} {left : Nat} (h : FI S left) (hl : left ≠ 0) : S.live = true := by
  rcases h with ⟨h1, h2⟩ | ⟨h1, h2⟩
  · simp [St.live, h1, h2, hl]
  · exact absurd h2 hl
theorem FI.gone {S : St} (h : FI S 0) : S.live = false := by
  rcases h with ⟨h1, h2⟩ | ⟨h1, h2⟩
  · simp [St.live, h2]
  · simp [St.live, h1]
theorem FI.tick {S : St} {left : Nat} (h : FI S left) : FI S.tick (left - 1) := by
  rcases h with ⟨h1, h2⟩ | ⟨h1, h2⟩
  · unfold St.tick
    rw [if_neg (by simp [h1])]
    split
    · exact .inr ⟨rfl, by omega⟩
    · refine .inl ⟨h1, ?_⟩
      simp only
      split <;> omega
  · unfold St.tick
    rw [if_pos h1]
    exact .inr ⟨h1, by omega⟩
theorem FI.rest {S T : St} {left : Nat} (h : FI S left) (r : Rest S.tick T) : FI T (left - 1) := by
  have := h.tick
  rcases this with ⟨h1, h2⟩ | ⟨h1, h2⟩
  · exact .inl ⟨r.dead.trans h1, r.fuse.trans h2⟩
  · exact .inr ⟨r.dead.trans h1, h2⟩
theorem fi_new (n : Nat) : FI ((St.new 1000).setFuse (n : Int)) n := by
  refine .inl ⟨rfl, ?_⟩
  simp only [St.setFuse]
  split <;> omega
set_option maxRecDepth 100000 in
set_option maxHeartbeats 4000000 in
theorem fuses_walk (a_0 : Int) (a : Option Addr) (len cap : Nat) (z : Nat → AV) (w : World) (_ : (Lit.int .i64 a_0).wf = true) (hz : Lst w a len z) (hl : len * 40 ≤ 140737488351232) :
    Calls Try.prog 7 #[.int .i64 a_0, .slice a len cap] w fun e w' => e = .returned (.bool true) ∧ Below w.heap.size w w' := by
  have HZ := Lib.hid hz
  have hlong := long_calls a len cap z w hz hl
  clear hz
  by_cases h0 : a_0 < 0
  · go_enter Try.func7, Try.ntmps7
    go_wp2_with fail
    go_ret
    exact ⟨rfl, Below.refl _ _⟩
  by_cases h20 : 20 < a_0
  · go_enter Try.func7, Try.ntmps7
    go_wp2_with fail
    go_ret
    exact ⟨rfl, Below.refl _ _⟩
  obtain ⟨n, rfl⟩ := Int.eq_ofNat_of_zero_le (show 0 ≤ a_0 by omega)
  go_enter Try.func7, Try.ntmps7
  go_wp2_with fail
  refine hlong.mono ?_
  rintro e w0 ⟨b, rfl, rfl⟩
  clear hlong
  cases b with
  | true =>
    go_wp2_with fail
    go_ret
    exact ⟨rfl, Below.refl _ _⟩
  | false =>
    go_wp2_with fail
    refine (has_new w 1000 _ (Below.refl _ _)).mono ?_
    rintro e w1 ⟨q, rfl, h1', -⟩
    have H1 := Lib.hid h1'
    clear h1'
    go_wp2_with fail
    refine (has_fuse H1.out (n : Int) (by omega)).mono ?_
    rintro e w2 ⟨rfl, h2'⟩
    have H2 := Lib.hid h2'
    clear h2'
    go_wp2_with fail
    go_loopg [6, 7, 8] 80 (fun g left was i wr => ∃ (k m : Nat) (S : St), k ≤ len ∧ k ≤ 80 ∧ m ≤ 20 ∧ g + k = 80 ∧ left = .int .i64 m ∧ was = .string ⟨S.L.toArray⟩ ∧ i = .int .i64 k ∧ FI S m ∧ Has w wr q S)
    case atStart => exact ⟨0, n, (St.new 1000).setFuse (n : Int), by omega, by omega, by omega, rfl, rfl, rfl, rfl, fi_new n, H2.out⟩
    case round =>
      obtain ⟨k, m, S, hk, hk80, hm, hg, rfl, rfl, rfl, hF, hH⟩ := hrel
      have HG := Lib.hid hg
      have HF := Lib.hid hF
      have HH := Lib.hid hH
      clear hg hF hH
      by_cases h1 : k < len
      · by_cases h2 : k < 80
        · obtain ⟨ad, rfl, hb, hi⟩ := HZ.out k h1
          have hck := cell_below HH.out.bel (by rw [add_block]; exact hb) hi.k
          have hcn := cell_below HH.out.bel (by rw [add_block]; exact hb) hi.n
          have hcp := cell_below HH.out.bel (by rw [add_block]; exact hb) hi.p
          rw [add_fld ad (k * 3) 1 (by omega)] at hcn
          rw [add_fld ad (k * 3) 2 (by omega)] at hcp
          have HI := Lib.hid hi
          clear hi
          generalize z k = x at *
          obtain ⟨K, N, A, C, P⟩ := x
          simp only at hck hcn hcp
          obtain ⟨L, hL⟩ : ∃ L, S.L = L := ⟨_, rfl⟩
          have HL := Lib.hid hL
          have hwas : (⟨S.L.toArray⟩ : ByteArray) = ⟨L.toArray⟩ := by rw [hL]
          rw [hwas]
          clear hwas hL
          by_cases hK1 : K = 1
          · subst hK1
            by_cases hm0 : m = 0
            · subst hm0
              have hno := write_no P (S := S) HF.out.gone
              have hr : Rest S.tick S.tick := ⟨rfl, rfl⟩
              have HF1 := Lib.hid (HF.out.rest hr)
              have HL1 : Hid (S.tick.L = L) := Lib.hid ((tick_L S).trans HL.out)
              clear hr
              go_wp2_with fail
              have hw := has_write HH.out A C P (src_below HI.out.src HI.out.old HH.out.bel) HI.out.old HI.out.nil HI.out.len
              rw [hno] at hw
              refine hw.mono ?_
              rintro e w3 ⟨rfl, h3⟩
              have H3 : Hid (Has w w3 q S.tick) := Lib.hid h3
              clear h3 hw hno hck hcn hcp
              generalize S.tick = T at *
              go_wp2_with fail
              refine (has_read H3.out).mono ?_
              rintro e w4 ⟨x, c, rfl, ho, h4, -⟩
              have H4 := Lib.hid h4
              rw [HL1.out] at ho
              have hstr := str_of ho
              clear ho h4
              rw [HL1.out]
              go_wp2_with fail
              refine (has_read H4.out).mono ?_
              rintro e w5 ⟨x, c, rfl, ho, h5, -⟩
              have H5 := Lib.hid h5
              rw [HL1.out] at ho
              have hstr := str_of ho
              clear ho h5
              rw [HL1.out]
              go_wp2_with fail
              go_roundg (80 - (k + 1))
              case rel => exact ⟨k + 1, 0, T, by omega, by omega, by omega, by omega, by go_num, by rw [HL1.out], by go_num, HF1.out, H5.out⟩
              case measure => have := HG.out; omega
            · have hcode := write_code P (S := S) (HF.out.live hm0)
              have hm1 : (0 : Int) < (m : Int) := by omega
              have hmd : decide ((m : Int) = 0) = false := decide_eq_false (by omega)
              have HF1 := Lib.hid (HF.out.rest (write_rest S P))
              go_wp2_with fail
              have hw := has_write HH.out A C P (src_below HI.out.src HI.out.old HH.out.bel) HI.out.old HI.out.nil HI.out.len
              refine hw.mono ?_
              clear hw
              rintro e w3 ⟨rfl, h3⟩
              have H3 := Lib.hid h3
              clear h3 hck hcn hcp
              generalize (S.write P).2 = code at *
              generalize (S.write P).1 = T at *
              rcases hcode with rfl | rfl
              · go_wp2_with fail
                all_goals
                  refine (has_read H3.out).mono ?_
                  rintro e w4 ⟨x, c, rfl, ho, h4, -⟩
                  have H4 := Lib.hid h4
                  have hstr := str_of ho
                  clear ho h4
                  go_wp2_with fail
                  go_roundg (80 - (k + 1))
                  case rel => exact ⟨k + 1, m - 1, T, by omega, by omega, by omega, by omega, by go_num, rfl, by go_num, HF1.out, H4.out⟩
                  case measure => have := HG.out; omega
              · go_wp2_with fail
                all_goals
                  refine (has_read H3.out).mono ?_
                  rintro e w4 ⟨x, c, rfl, ho, h4, -⟩
                  have H4 := Lib.hid h4
                  have hstr := str_of ho
                  clear ho h4
                  go_wp2_with fail
                  go_roundg (80 - (k + 1))
                  case rel => exact ⟨k + 1, m - 1, T, by omega, by omega, by omega, by omega, by go_num, rfl, by go_num, HF1.out, H4.out⟩
                  case measure => have := HG.out; omega
          · by_cases hK2 : K = 2
            · subst hK2
              by_cases hm0 : m = 0
              · subst hm0
                have hno := sync_no (S := S) HF.out.gone
                have hr : Rest S.tick S.tick := ⟨rfl, rfl⟩
                have HF1 := Lib.hid (HF.out.rest hr)
                have HL1 : Hid (S.tick.L = L) := Lib.hid ((tick_L S).trans HL.out)
                clear hr
                go_wp2_with fail
                have hw := has_sync HH.out
                rw [hno] at hw
                refine hw.mono ?_
                rintro e w3 ⟨rfl, h3⟩
                have H3 : Hid (Has w w3 q S.tick) := Lib.hid h3
                clear h3 hw hno hck hcn hcp
                generalize S.tick = T at *
                go_wp2_with fail
                refine (has_read H3.out).mono ?_
                rintro e w4 ⟨x, c, rfl, ho, h4, -⟩
                have H4 := Lib.hid h4
                rw [HL1.out] at ho
                have hstr := str_of ho
                clear ho h4
                rw [HL1.out]
                go_wp2_with fail
                refine (has_read H4.out).mono ?_
                rintro e w5 ⟨x, c, rfl, ho, h5, -⟩
                have H5 := Lib.hid h5
                rw [HL1.out] at ho
                have hstr := str_of ho
                clear ho h5
                rw [HL1.out]
                go_wp2_with fail
                go_roundg (80 - (k + 1))
                case rel => exact ⟨k + 1, 0, T, by omega, by omega, by omega, by omega, by go_num, by rw [HL1.out], by go_num, HF1.out, H5.out⟩
                case measure => have := HG.out; omega
              · have hcode := sync_code (S := S) (HF.out.live hm0)
                have hm1 : (0 : Int) < (m : Int) := by omega
                have hmd : decide ((m : Int) = 0) = false := decide_eq_false (by omega)
                have HF1 := Lib.hid (HF.out.rest (sync_rest S))
                go_wp2_with fail
                have hw := has_sync HH.out
                refine hw.mono ?_
                clear hw
                rintro e w3 ⟨rfl, h3⟩
                have H3 := Lib.hid h3
                clear h3 hck hcn hcp
                generalize (S.sync).2 = code at *
                generalize (S.sync).1 = T at *
                subst hcode
                go_wp2_with fail
                all_goals
                  refine (has_read H3.out).mono ?_
                  rintro e w4 ⟨x, c, rfl, ho, h4, -⟩
                  have H4 := Lib.hid h4
                  have hstr := str_of ho
                  clear ho h4
                  go_wp2_with fail
                  go_roundg (80 - (k + 1))
                  case rel => exact ⟨k + 1, m - 1, T, by omega, by omega, by omega, by omega, by go_num, rfl, by go_num, HF1.out, H4.out⟩
                  case measure => have := HG.out; omega
            · by_cases hm0 : m = 0
              · subst hm0
                have hno := cut_no N (S := S) HF.out.gone
                have hr : Rest S.tick S.tick := ⟨rfl, rfl⟩
                have HF1 := Lib.hid (HF.out.rest hr)
                have HL1 : Hid (S.tick.L = L) := Lib.hid ((tick_L S).trans HL.out)
                clear hr
                go_wp2_with fail
                have hw := has_cut HH.out N
                rw [hno] at hw
                refine hw.mono ?_
                rintro e w3 ⟨rfl, h3⟩
                have H3 : Hid (Has w w3 q S.tick) := Lib.hid h3
                clear h3 hw hno hck hcn hcp
                generalize S.tick = T at *
                go_wp2_with fail
                refine (has_read H3.out).mono ?_
                rintro e w4 ⟨x, c, rfl, ho, h4, -⟩
                have H4 := Lib.hid h4
                rw [HL1.out] at ho
                have hstr := str_of ho
                clear ho h4
                rw [HL1.out]
                go_wp2_with fail
                refine (has_read H4.out).mono ?_
                rintro e w5 ⟨x, c, rfl, ho, h5, -⟩
                have H5 := Lib.hid h5
                rw [HL1.out] at ho
                have hstr := str_of ho
                clear ho h5
                rw [HL1.out]
                go_wp2_with fail
                go_roundg (80 - (k + 1))
                case rel => exact ⟨k + 1, 0, T, by omega, by omega, by omega, by omega, by go_num, by rw [HL1.out], by go_num, HF1.out, H5.out⟩
                case measure => have := HG.out; omega
              · have hcode := cut_code N (S := S) (HF.out.live hm0)
                have hm1 : (0 : Int) < (m : Int) := by omega
                have hmd : decide ((m : Int) = 0) = false := decide_eq_false (by omega)
                have HF1 := Lib.hid (HF.out.rest (cut_rest S N))
                go_wp2_with fail
                have hw := has_cut HH.out N
                refine hw.mono ?_
                clear hw
                rintro e w3 ⟨rfl, h3⟩
                have H3 := Lib.hid h3
                clear h3 hck hcn hcp
                generalize (S.cut N).2 = code at *
                generalize (S.cut N).1 = T at *
                rcases hcode with rfl | rfl
                · go_wp2_with fail
                  all_goals
                    refine (has_read H3.out).mono ?_
                    rintro e w4 ⟨x, c, rfl, ho, h4, -⟩
                    have H4 := Lib.hid h4
                    have hstr := str_of ho
                    clear ho h4
                    go_wp2_with fail
                    go_roundg (80 - (k + 1))
                    case rel => exact ⟨k + 1, m - 1, T, by omega, by omega, by omega, by omega, by go_num, rfl, by go_num, HF1.out, H4.out⟩
                    case measure => have := HG.out; omega
                · go_wp2_with fail
                  all_goals
                    refine (has_read H3.out).mono ?_
                    rintro e w4 ⟨x, c, rfl, ho, h4, -⟩
                    have H4 := Lib.hid h4
                    have hstr := str_of ho
                    clear ho h4
                    go_wp2_with fail
                    go_roundg (80 - (k + 1))
                    case rel => exact ⟨k + 1, m - 1, T, by omega, by omega, by omega, by omega, by go_num, rfl, by go_num, HF1.out, H4.out⟩
                    case measure => have := HG.out; omega
        · go_wp2_with fail
          refine (known_true _).mono ?_
          rintro e w5 ⟨rfl, hb5⟩
          have H5 := Lib.hid (HH.out.below hb5)
          clear hb5
          go_wp2_with fail
          go_ret
          exact ⟨rfl, H5.out.bel⟩
      · go_wp2_with fail
        refine (known_true _).mono ?_
        rintro e w5 ⟨rfl, hb5⟩
        have H5 := Lib.hid (HH.out.below hb5)
        clear hb5
        go_wp2_with fail
        go_ret
        exact ⟨rfl, H5.out.bel⟩
end Go.Proofs.Ytakpmnlakgkgpaa
