/- StripPlays, walked: it answers true whatever the room and the script; condition: the list's cells lie in the world. -/
import Derived.Test.YtakpmnlakgkgpaaTwo
import Derived.Test.YtakpmnlakgkgpaaShut
namespace Go.Proofs.Ytakpmnlakgkgpaa
open Go.RowKit
/-- What is read of the answer's strip, now and behind what comes. -/
theorem two_x {w0 w : World} {q x : Nat} {S R : St} (h : Two w0 w q S x R) (ha : Alike S R) : ∃ a c, ∀ w', Below w.heap.size w w' → w'.cell? ⟨x, 0, none⟩ = some (.slice a S.L.length c) ∧ w'.cell? ⟨x, 1, none⟩ = some (.int .i64 (S.safe : Int)) ∧ (convert 26 9 (.slice a S.L.length c)).run Try.prog w' = .ok (.string ⟨S.L.toArray⟩) w' := by
  obtain ⟨hf, hg, hq, hx, hb0, v, u, h1, h2, h3⟩ := h
  obtain ⟨a, c, rfl⟩ := own_shape h2.2
  rw [← ha.L, ← ha.safe]
  exact ⟨a, c, fun w' hb => ⟨(h2.below hb).cells.1, (h2.below hb).cells.2.1, str_of (h2.below hb).2⟩⟩
theorem drew_below (w : World) : Below w.heap.size w w.drew := below_drewN (Below.refl _ _) 1
set_option maxRecDepth 100000 in
set_option maxHeartbeats 8000000 in
theorem plays_walk (room : Int) (a : Option Addr) (len cap : Nat) (z : Nat → AV) (w : World) (_ : (Lit.int .i64 room).wf = true) (hz : Lst w a len z) (hl : len * 40 ≤ 140737488351232) :
    Calls Try.prog 5 #[.int .i64 room, .slice a len cap] w fun e w' => e = .returned (.bool true) ∧ Below w.heap.size w w' := by
  have HZ := Lib.hid hz
  have hlong := long_calls a len cap z w hz hl
  clear hz
  go_enter Try.func5, Try.ntmps5
  go_wp2_with fail
  refine hlong.mono ?_
  rintro e w0 ⟨b, rfl, rfl⟩
  clear hlong
  cases b with
  | true =>
    go_wp2_with fail
    go_ret
    exact ⟨rfl, Below.refl _ _⟩
  | false =>
    go_wp2_with fail
    refine (two_new w room).mono ?_
    rintro e w1 ⟨q, rfl, h1'⟩
    have H1 := Lib.hid h1'
    clear h1'
    go_wp2_with fail
    refine (two_rnew room H1.out).mono ?_
    rintro e w2 ⟨x, rfl, h2'⟩
    have H2 := Lib.hid h2'
    clear h2'
    go_wp2_with fail
    go_loopg [5, 6, 7] 80 (fun g sv xv i wr => ∃ (k q x : Nat) (S R : St), k ≤ len ∧ k ≤ 80 ∧ g + k = 80 ∧ sv = .pointer (some ⟨q, 0, none⟩) ∧ xv = .pointer (some ⟨x, 0, none⟩) ∧ i = .int .i64 k ∧ Alike S R ∧ Two w wr q S x R)
    case atStart => exact ⟨0, q, x, _, _, by omega, by omega, rfl, rfl, rfl, rfl, Alike.refl _, H2.out⟩
    case round =>
      clear H1 H2
      obtain ⟨k, q, x, S, R, hk, hk80, hg, rfl, rfl, rfl, hA, hH⟩ := hrel
      have HG := Lib.hid hg
      have HA := Lib.hid hA
      have HH := Lib.hid hH
      clear hg hA hH
      by_cases hgo : k < len ∧ k < 80
      · obtain ⟨h1, h2⟩ := hgo
        obtain ⟨ad, rfl, hb, hi⟩ := HZ.out k h1
        have hck := cell_below HH.out.bel (by rw [add_block]; exact hb) hi.k
        have hcn := cell_below HH.out.bel (by rw [add_block]; exact hb) hi.n
        have hcp := cell_below HH.out.bel (by rw [add_block]; exact hb) hi.p
        have HCN := Lib.hid (fun (w' : World) (hb' : Below w.heap.size w w') => cell_below hb' (by rw [add_block]; exact hb) hi.n)
        have HCP := Lib.hid (fun (w' : World) (hb' : Below w.heap.size w w') => cell_below hb' (by rw [add_block]; exact hb) hi.p)
        rw [add_fld ad (k * 3) 1 (by omega)] at hcn HCN
        rw [add_fld ad (k * 3) 2 (by omega)] at hcp HCP
        have HI := Lib.hid hi
        clear hi
        generalize z k = y at *
        obtain ⟨K, N, A, C, P⟩ := y
        simp only at hck hcn hcp HCN HCP
        by_cases hK1 : K = 1
        · subst hK1
          obtain ⟨hcode, hal⟩ := HA.out.write HH.out.1 P
          have HCODE := Lib.hid hcode
          have HA3 := Lib.hid hal
          clear hcode hal
          go_wp2_with fail
          go_region_held3 (fun w' => w'.cell? ⟨(ad.add (k * 3)).block, (ad.add (k * 3)).off + 2, none⟩ = some (.slice A P.length C))
            (first | go_keep | exact HCP.out _ (HH.out.drewN 1).bel | exact HCP.out _ HQ.out.bel | exact HCP.out _ H3.out.bel)
            (first
            | (go_at_call 10; refine (two_write A C P HI.out.src HI.out.old HI.out.nil HI.out.len (HH.out.drewN 1)).mono ?_; rintro e w2 ⟨rfl, h2'⟩; have HQ := Lib.hid h2'; clear h2')
            | (go_at_call 18; refine (two_rwrite A C P HI.out.src HI.out.old HI.out.nil HI.out.len HQ.out).mono ?_; rintro e w3 ⟨rfl, h3'⟩; rw [HCODE.out]; have H3 := Lib.hid h3'; clear h3'))
          clear HCODE HQ
          generalize (S.write P).1 = T at *
          generalize (R.rwrite P).1 = U at *
          obtain ⟨xa, xc, hX⟩ := two_x H3.out HA3.out
          have HX := Lib.hid hX
          obtain ⟨hx0, hx1, hxs⟩ := hX _ (Below.refl _ _)
          clear hX hx0 hx1 hxs hck hcn hcp
          go_wp2_with fail
          go_region_held3 (fun w' => w'.cell? ⟨x, 0, none⟩ = some (.slice xa T.L.length xc) ∧ w'.cell? ⟨x, 1, none⟩ = some (.int .i64 (T.safe : Int)) ∧ (convert 26 9 (.slice xa T.L.length xc)).run Try.prog w' = .ok (.string ⟨T.L.toArray⟩) w')
            (first | assumption | exact HX.out _ (drew_below _) | exact ⟨HX.out _ HB4.out.1, HB4.out.2⟩)
            (first
            | (go_at_call 11; refine (two_read (H3.out.drewN 1)).mono ?_; rintro e w4 ⟨ra, rc, rfl, ho4, h4, hb4⟩; have H4 := Lib.hid h4; have HB4 := Lib.hid (And.intro ((drew_below w3).trans hb4) (str_of ho4)); clear ho4 h4 hb4; rw [shut_eq ‹Shut _› (fun w' => (convert 26 9 (.slice ra T.L.length rc)).run Try.prog w' = .ok (.string ⟨T.L.toArray⟩) w')] at *)
            | (go_at_call 15; refine (two_safe H4.out).mono ?_; rintro e w5 ⟨rfl, rfl⟩))
          go_wp2_with fail
          go_roundg (80 - (k + 1))
          case rel => exact ⟨k + 1, _, _, T, U, by omega, by omega, by omega, rfl, rfl, by go_num, HA3.out, H4.out⟩
          case measure => have := HG.out; omega
        · by_cases hK2 : K = 2
          · subst hK2
            obtain ⟨hcode, hal⟩ := HA.out.sync HH.out.1
            have HCODE := Lib.hid hcode
            have HA3 := Lib.hid hal
            clear hcode hal
            go_wp2_with fail
            refine (two_sync HH.out).mono ?_
            rintro e w2 ⟨rfl, h2'⟩
            have HQ := Lib.hid h2'
            clear h2'
            go_wp2_with fail
            refine (two_rsync HQ.out).mono ?_
            rintro e w3 ⟨rfl, h3'⟩
            rw [HCODE.out]
            have H3 := Lib.hid h3'
            clear h3' HCODE HQ
            generalize (S.sync).1 = T at *
            generalize (R.rsync).1 = U at *
            obtain ⟨xa, xc, hX⟩ := two_x H3.out HA3.out
            have HX := Lib.hid hX
            obtain ⟨hx0, hx1, hxs⟩ := hX _ (Below.refl _ _)
            clear hX hx0 hx1 hxs hck hcn hcp
            go_wp2_with fail
            go_region_held3 (fun w' => w'.cell? ⟨x, 0, none⟩ = some (.slice xa T.L.length xc) ∧ w'.cell? ⟨x, 1, none⟩ = some (.int .i64 (T.safe : Int)) ∧ (convert 26 9 (.slice xa T.L.length xc)).run Try.prog w' = .ok (.string ⟨T.L.toArray⟩) w')
              (first | assumption | exact HX.out _ (drew_below _) | exact ⟨HX.out _ HB4.out.1, HB4.out.2⟩)
              (first
              | (go_at_call 11; refine (two_read (H3.out.drewN 1)).mono ?_; rintro e w4 ⟨ra, rc, rfl, ho4, h4, hb4⟩; have H4 := Lib.hid h4; have HB4 := Lib.hid (And.intro ((drew_below w3).trans hb4) (str_of ho4)); clear ho4 h4 hb4; rw [shut_eq ‹Shut _› (fun w' => (convert 26 9 (.slice ra T.L.length rc)).run Try.prog w' = .ok (.string ⟨T.L.toArray⟩) w')] at *)
              | (go_at_call 15; refine (two_safe H4.out).mono ?_; rintro e w5 ⟨rfl, rfl⟩))
            go_wp2_with fail
            go_roundg (80 - (k + 1))
            case rel => exact ⟨k + 1, _, _, T, U, by omega, by omega, by omega, rfl, rfl, by go_num, HA3.out, H4.out⟩
            case measure => have := HG.out; omega
          · by_cases hK3 : K = 3
            · subst hK3
              obtain ⟨hcode, hal⟩ := HA.out.cut HH.out.1 N
              have HCODE := Lib.hid hcode
              have HA3 := Lib.hid hal
              clear hcode hal
              go_wp2_with fail
              go_region_held3 (fun w' => w'.cell? ⟨(ad.add (k * 3)).block, (ad.add (k * 3)).off + 1, none⟩ = some (.int .i64 N))
                (first | go_keep | exact HCN.out _ (HH.out.drewN 1).bel | exact HCN.out _ HQ.out.bel | exact HCN.out _ H3.out.bel)
                (first
                | (go_at_call 14; refine (two_cut N (HH.out.drewN 1)).mono ?_; rintro e w2 ⟨rfl, h2'⟩; have HQ := Lib.hid h2'; clear h2')
                | (go_at_call 20; refine (two_rcut N HQ.out).mono ?_; rintro e w3 ⟨rfl, h3'⟩; rw [HCODE.out]; have H3 := Lib.hid h3'; clear h3'))
              clear HCODE HQ
              generalize (S.cut N).1 = T at *
              generalize (R.rcut N).1 = U at *
              obtain ⟨xa, xc, hX⟩ := two_x H3.out HA3.out
              have HX := Lib.hid hX
              obtain ⟨hx0, hx1, hxs⟩ := hX _ (Below.refl _ _)
              clear hX hx0 hx1 hxs hck hcn hcp
              go_wp2_with fail
              go_region_held3 (fun w' => w'.cell? ⟨x, 0, none⟩ = some (.slice xa T.L.length xc) ∧ w'.cell? ⟨x, 1, none⟩ = some (.int .i64 (T.safe : Int)) ∧ (convert 26 9 (.slice xa T.L.length xc)).run Try.prog w' = .ok (.string ⟨T.L.toArray⟩) w')
                (first | assumption | exact HX.out _ (drew_below _) | exact ⟨HX.out _ HB4.out.1, HB4.out.2⟩)
                (first
                | (go_at_call 11; refine (two_read (H3.out.drewN 1)).mono ?_; rintro e w4 ⟨ra, rc, rfl, ho4, h4, hb4⟩; have H4 := Lib.hid h4; have HB4 := Lib.hid (And.intro ((drew_below w3).trans hb4) (str_of ho4)); clear ho4 h4 hb4; rw [shut_eq ‹Shut _› (fun w' => (convert 26 9 (.slice ra T.L.length rc)).run Try.prog w' = .ok (.string ⟨T.L.toArray⟩) w')] at *)
                | (go_at_call 15; refine (two_safe H4.out).mono ?_; rintro e w5 ⟨rfl, rfl⟩))
              go_wp2_with fail
              go_roundg (80 - (k + 1))
              case rel => exact ⟨k + 1, _, _, T, U, by omega, by omega, by omega, rfl, rfl, by go_num, HA3.out, H4.out⟩
              case measure => have := HG.out; omega
            · by_cases hK4 : K = 4
              · subst hK4
                have HA3 := Lib.hid (HA.out.setFuse N)
                go_wp2_with fail
                refine (two_fuse N HI.out.hi HH.out).mono ?_
                rintro e w2 ⟨rfl, h2'⟩
                have HQ := Lib.hid h2'
                have hcn2 := HCN.out _ h2'.bel
                clear h2'
                go_wp2_with fail
                refine (two_rfuse N HI.out.hi HQ.out).mono ?_
                rintro e w3 ⟨rfl, h3'⟩
                have H3 := Lib.hid h3'
                clear h3' HQ hcn2
                generalize S.setFuse N = T at *
                generalize R.setFuse N = U at *
                obtain ⟨xa, xc, hX⟩ := two_x H3.out HA3.out
                have HX := Lib.hid hX
                obtain ⟨hx0, hx1, hxs⟩ := hX _ (Below.refl _ _)
                clear hX hx0 hx1 hxs hck hcn hcp
                go_wp2_with fail
                go_region_held3 (fun w' => w'.cell? ⟨x, 0, none⟩ = some (.slice xa T.L.length xc) ∧ w'.cell? ⟨x, 1, none⟩ = some (.int .i64 (T.safe : Int)) ∧ (convert 26 9 (.slice xa T.L.length xc)).run Try.prog w' = .ok (.string ⟨T.L.toArray⟩) w')
                  (first | assumption | exact HX.out _ (drew_below _) | exact ⟨HX.out _ HB4.out.1, HB4.out.2⟩)
                  (first
                  | (go_at_call 11; refine (two_read (H3.out.drewN 1)).mono ?_; rintro e w4 ⟨ra, rc, rfl, ho4, h4, hb4⟩; have H4 := Lib.hid h4; have HB4 := Lib.hid (And.intro ((drew_below w3).trans hb4) (str_of ho4)); clear ho4 h4 hb4; rw [shut_eq ‹Shut _› (fun w' => (convert 26 9 (.slice ra T.L.length rc)).run Try.prog w' = .ok (.string ⟨T.L.toArray⟩) w')] at *)
                  | (go_at_call 15; refine (two_safe H4.out).mono ?_; rintro e w5 ⟨rfl, rfl⟩))
                go_wp2_with fail
                go_roundg (80 - (k + 1))
                case rel => exact ⟨k + 1, _, _, T, U, by omega, by omega, by omega, rfl, rfl, by go_num, HA3.out, H4.out⟩
                case measure => have := HG.out; omega
              · have HA3 := Lib.hid (HA.out.crash N)
                go_wp2_with fail
                go_region_held3 (fun w' => w'.cell? ⟨(ad.add (k * 3)).block, (ad.add (k * 3)).off + 1, none⟩ = some (.int .i64 N))
                  (first | go_keep | exact HCN.out _ (HH.out.drewN 1).bel | exact HCN.out _ HQ.out.bel | exact HCN.out _ H3.out.bel)
                  (first
                  | (go_at_call 23; refine (two_crash N (HH.out.drewN 1)).mono ?_; rintro e w2 ⟨q2, rfl, h2'⟩; have HQ := Lib.hid h2'; clear h2')
                  | (go_at_call 24; refine (two_rcrash N HQ.out).mono ?_; rintro e w3 ⟨x2, rfl, h3'⟩; have H3 := Lib.hid h3'; clear h3'))
                clear HQ
                generalize S.crash N = T at *
                generalize R.crash N = U at *
                obtain ⟨xa, xc, hX⟩ := two_x H3.out HA3.out
                have HX := Lib.hid hX
                obtain ⟨hx0, hx1, hxs⟩ := hX _ (Below.refl _ _)
                clear hX hx0 hx1 hxs hck hcn hcp
                go_wp2_with fail
                go_region_held3 (fun w' => w'.cell? ⟨x2, 0, none⟩ = some (.slice xa T.L.length xc) ∧ w'.cell? ⟨x2, 1, none⟩ = some (.int .i64 (T.safe : Int)) ∧ (convert 26 9 (.slice xa T.L.length xc)).run Try.prog w' = .ok (.string ⟨T.L.toArray⟩) w')
                  (first | assumption | exact HX.out _ (drew_below _) | exact ⟨HX.out _ HB4.out.1, HB4.out.2⟩)
                  (first
                  | (go_at_call 11; refine (two_read (H3.out.drewN 1)).mono ?_; rintro e w4 ⟨ra, rc, rfl, ho4, h4, hb4⟩; have H4 := Lib.hid h4; have HB4 := Lib.hid (And.intro ((drew_below w3).trans hb4) (str_of ho4)); clear ho4 h4 hb4; rw [shut_eq ‹Shut _› (fun w' => (convert 26 9 (.slice ra T.L.length rc)).run Try.prog w' = .ok (.string ⟨T.L.toArray⟩) w')] at *)
                  | (go_at_call 15; refine (two_safe H4.out).mono ?_; rintro e w5 ⟨rfl, rfl⟩))
                go_wp2_with fail
                go_roundg (80 - (k + 1))
                case rel => exact ⟨k + 1, _, _, T, U, by omega, by omega, by omega, rfl, rfl, by go_num, HA3.out, H4.out⟩
                case measure => have := HG.out; omega
      · by_cases hlt : k < len
        · have h80 : 80 ≤ (k : Int) := by omega
          go_wp2_with fail
          refine (known_true _).mono ?_
          rintro e w5 ⟨rfl, hb5⟩
          have H5 := Lib.hid (HH.out.below hb5)
          clear hb5
          go_wp2_with fail
          go_ret
          exact ⟨rfl, H5.out.bel⟩
        · go_wp2_with fail
          refine (known_true _).mono ?_
          rintro e w5 ⟨rfl, hb5⟩
          have H5 := Lib.hid (HH.out.below hb5)
          clear hb5
          go_wp2_with fail
          go_ret
          exact ⟨rfl, H5.out.bel⟩
end Go.Proofs.Ytakpmnlakgkgpaa
