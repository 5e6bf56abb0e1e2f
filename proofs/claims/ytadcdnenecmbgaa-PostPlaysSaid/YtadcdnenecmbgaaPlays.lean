/- PostPlays, walked: it answers true whatever the rooms and the script; conditions: the lists' cells lie in the world. -/
import Derived.Test.YtadcdnenecmbgaaPlayState
import Derived.Deep.RegionHeld3
namespace Go.Proofs.Ytadcdnenecmbgaa
open Go.Conc Go.RowKit

theorem info44 : (Try.prog.info? 44).map (fun i => (i.zero, i.size, i.bytes)) = some (some (.pointer none), 1, 8) := by kernel_rfl
theorem keep_arg2 {w2 : World} {N M : Nat} {v : Value} {n : Nat} {xs : List Value} {a : Addr} {u : Value} (h : w2.ownsRow N 44 1 v n xs) (hc : w2.cell? a = some u) (ha : a.block < N) (_ : M ≤ w2.heap.size) :
    ∀ o o' w', ((w2.alloc o).alloc o').grownBy w' v.ownBlock → w'.cell? a = some u := by
  intro o o' w' hg
  have hlt : a.block < w2.heap.size := lt_of_cell hc
  rw [hg.cell_far a (by simp; omega) (fun e => by have := (own_info h e.symm).1; omega), World.cell?_of_block (Below.heap_alloc (w2.alloc o) o' _ (by simp; omega)), World.cell?_of_block (Below.heap_alloc w2 o _ hlt)]
  exact hc
theorem new_at (x : Int) (r : Nat) (hr : x.toNat = r) (h : x ≤ 1000) (w : World) :
    Calls Try.prog 8 #[.int .i64 x] w fun e w' => e = .returned (.pointer (some ⟨w.heap.size + 1, 0, none⟩)) ∧ (w.alloc (.chan r #[] false 0 0 false)).alloc (.cells #[.chan (some w.heap.size)] 56) = w' := by
  subst hr
  exact new_le x h w
theorem ref_new_at (x : Int) (r : Nat) (hr : x.toNat = r) (w : World) : Calls Try.prog 18 #[.int .i64 x] w fun e w' => e = .returned (.pointer (some ⟨w.heap.size, 0, none⟩)) ∧ w.alloc (.cells #[.slice none 0 0, .int .i64 (r : Int)] 51) = w' := by
  subst hr
  exact ref_new_le x w
theorem keep_arg {w1 : World} {N M : Nat} {e : TypeId} {v : Value} {n : Nat} {xs : List Value} {a : Addr} {u : Value} (h : w1.ownsRow N e 1 v n xs) (hc : w1.cell? a = some u) (ha : a.block < N) (hs : w1.heap.size = M + 2) (hN : N ≤ M) :
    ∀ o w', ((w1.alloc o).drew).grownBy w' v.ownBlock → w'.cell? a = some u := by
  intro o w' hg
  have hlt : a.block < w1.heap.size := by omega
  rw [hg.cell_far a (by show a.block < (w1.alloc o).heap.size; simp; omega) (fun e => by have := (own_info h e.symm).1; omega)]
  show (w1.alloc o).cell? a = some u
  rw [World.cell?_of_block (Below.heap_alloc w1 o _ hlt)]
  exact hc
set_option maxRecDepth 100000 in
set_option maxHeartbeats 4000000 in
theorem plays_walk (a0 : Option Addr) (len0 cap0 : Nat) (z0 : Nat → Int) (a1 : Option Addr) (len1 cap1 : Nat) (z1 : Nat → Int × Int × Int) (w : World)
    (hc0 : ∀ i, i < len0 → (∃ ad, a0 = some ad ∧ ad.block < w.heap.size ∧ w.cell? (ad.add i) = some (.int .i64 (z0 i))) ∧ (Lit.int .i64 (z0 i)).wf = true) (hl0 : len0 * 8 ≤ 140737488351232)
    (hc1 : ∀ i, i < len1 → ∃ ad, a1 = some ad ∧ ad.block < w.heap.size ∧ w.cell? (ad.add (i * 3)) = some (.int .i64 (z1 i).1) ∧ w.cell? (ad.add (i * 3 + 1)) = some (.int .i64 (z1 i).2.1) ∧ w.cell? (ad.add (i * 3 + 2)) = some (.int .i64 (z1 i).2.2)) (hl1 : len1 * 24 ≤ 140737488351232) :
    Calls Try.prog 6 #[.slice a0 len0 cap0, .slice a1 len1 cap1] w fun e w' => e = .returned (.bool true) ∧ Below w.heap.size w w' := by
  obtain ⟨i23, hi0, hi1, hi2, hi3⟩ := info_parts info23
  obtain ⟨i44, hj0, hj1, hj2, hj3⟩ := info_parts info44
  have HC0 := Lib.hid hc0
  have HC1 := Lib.hid hc1
  clear hc0 hc1
  by_cases h1 : len0 < 1 ∨ 6 < len0 ∨ 10000 < len1
  · rcases (show len0 < 1 ∨ (¬ len0 < 1 ∧ 6 < len0) ∨ (¬ len0 < 1 ∧ ¬ 6 < len0 ∧ 10000 < len1) by omega) with h | ⟨h, h'⟩ | ⟨h, h', h''⟩
    all_goals
      clear h1
      go_enter Try.func6, Try.ntmps6
      go_wp2_with fail
      go_ret
      exact ⟨rfl, Below.refl _ _⟩
  · have h2 : 1 ≤ len0 := by omega
    have h3 : len0 ≤ 6 := by omega
    have h4 : len1 ≤ 10000 := by omega
    clear h1
    go_enter Try.func6, Try.ntmps6
    go_wp2_with fail
    go_loopg [5, 6, 7] len0 (fun g vb vx i wr => ∃ (k : Nat) (B C Q R : Nat → Nat), k ≤ len0 ∧ g + k = len0 ∧ i = .int .i64 k ∧ PS k w.heap.size wr vb vx B C Q R nilV nilL ∧ Below w.heap.size w wr)
    case atStart => exact ⟨0, fun _ => 0, fun _ => 0, fun _ => 0, fun _ => 0, Nat.zero_le _, rfl, rfl, ps_none _ _ (Nat.le_refl _) _, Below.refl _ _⟩
    case round =>
      obtain ⟨k, B, C, Q, R, hk, hg, rfl, hP, hbr⟩ := hrel
      have HG := Lib.hid hg
      have HP := Lib.hid hP
      clear hg hP
      have hsz := hbr.size
      by_cases hlt : k < len0
      · obtain ⟨⟨ad, rfl, hb, hcell0⟩, hwf⟩ := HC0.out k hlt
        have hcell := cell_below hbr (by rw [add_block]; exact hb) hcell0
        clear hcell0 hwf
        obtain ⟨x, hx⟩ : ∃ x, z0 k = x := ⟨_, rfl⟩
        rw [hx] at hcell
        clear hx
        by_cases hx1 : 1000 < x
        · go_wp2_with fail
          go_ret
          exact ⟨rfl, hbr⟩
        · go_wp2_with fail
          obtain ⟨r, hr⟩ : ∃ r, x.toNat = r := ⟨_, rfl⟩
          have hr1 : r ≤ 1000 := by omega
          have HR := Lib.hid hr
          refine (new_at x r hr (by omega) _).mono ?_
          clear hr
          rintro e w1 ⟨rfl, rfl⟩
          have hB : BoxAt 56 ((wr.alloc (.chan r #[] false 0 0 false)).alloc (.cells #[.chan (some wr.heap.size)] 56)) (wr.heap.size + 1) wr.heap.size r (vals []) := boxAt_new wr 56 r
          have hG1 := grown_two wr (.chan r #[] false 0 0 false) (.cells #[.chan (some wr.heap.size)] 56)
          have hs1 : ((wr.alloc (.chan r #[] false 0 0 false)).alloc (.cells #[.chan (some wr.heap.size)] 56)).heap.size = wr.heap.size + 2 := by simp
          generalize (wr.alloc (.chan r #[] false 0 0 false)).alloc (.cells #[.chan (some wr.heap.size)] 56) = w1 at *
          have hb1 := below_only hbr hG1 (fun i e => by cases e) hsz
          have hcell1 : w1.cell? (ad.add k) = some (.int .i64 x) := by
            rw [World.cell?_of_block (hG1.block _ (by rw [add_block]; omega) (by simp))]
            exact hcell
          clear hcell
          have hownB : w1.ownsRow w.heap.size 23 1 u5 k (ptrs B k) := own_none HP.out.rowB hG1
          have hownX : w1.ownsRow w.heap.size 44 1 u6 k (ptrs Q k) := own_none HP.out.rowX hG1
          have HNE := Lib.hid (rows_apart hownX hownB (by decide))
          have HK := Lib.hid (keep_arg hownB hcell1 (by rw [add_block]; exact hb) hs1 hsz)
          have hsz1 : w.heap.size ≤ w1.heap.size := by omega
          have HS1 := Lib.hid hs1
          have HAB : Hid ((ad.add k).block < w.heap.size) := Lib.hid (by rw [add_block]; exact hb)
          clear hs1
          go_wp2_with fail
          go_region_held3 (fun w' => w'.cell? (ad.add k) = some (.int .i64 x))
            (first | go_keep | exact HK.out _ _ hgr2 | exact keep_arg2 hX2 (HK.out _ _ hgr2) HAB.out hsz2 _ _ _ hgr5)
            (first
              | (refine step_append_lies _ rfl (.tmp 54) (.tmp 56) 38 rfl w.heap.size 23 i23 (.pointer none) 1 8 Try.underlying38 hi0 hi1 hi2 hi3 rfl (by omega) u5 k (ptrs B k) rfl ((hownB.alloc _).drew)
                  ⟨w1.heap.size, 0, none⟩ 1 1 [.pointer (some ⟨wr.heap.size + 1, 0, none⟩)] rfl rfl (World.news_of_block (cs := #[.pointer (some ⟨wr.heap.size + 1, 0, none⟩)]) (t := 23) (fr := (0, 0)) (heap_alloc_new w1 _)) (by simp [Value.oneCell'])
                  (by omega) (by unfold maxLen; omega) (by omega) (by simp; omega) (w1.heap.size + 1) (by simp) ?_; intro g1 cp1 w2 hown2 hgr2 hat2 hlt2; have hX2 := ((hownX.alloc _).drew).kept hgr2 HNE.out; have hsz2 := hgr2.size; simp at hsz2)
              | (go_at_call 18; refine (ref_new_at _ r HR.out _).mono ?_; rintro e w3 ⟨rfl, rfl⟩)
              | (refine step_append_lies _ rfl (.tmp 58) (.tmp 64) 43 rfl w.heap.size 44 i44 (.pointer none) 1 8 Try.underlying43 hj0 hj1 hj2 hj3 rfl (by omega) u6 k (ptrs Q k) rfl ((hX2.alloc _).alloc _)
                  ⟨w2.heap.size + 1, 0, none⟩ 1 1 [.pointer (some ⟨w2.heap.size, 0, none⟩)] rfl rfl (World.news_of_block (cs := #[.pointer (some ⟨w2.heap.size, 0, none⟩)]) (t := 44) (fr := (0, 0)) (by have := heap_alloc_new (w2.alloc (.cells #[.slice none 0 0, .int .i64 (r : Int)] 51)) (.cells #[.pointer (some ⟨w2.heap.size, 0, none⟩)] 44); simpa using this)) (by simp [Value.oneCell'])
                  (by omega) (by unfold maxLen; omega) (by omega) (by simp; omega) (w2.heap.size + 2) (by simp) ?_; intro g2 cp2 w5 hown5 hgr5 hat5 hlt5))
          have HS := Lib.hid (build_step HP.out hG1 HS1.out hB hr1 hgr2 hown2 hgr5 hown5)
          clear hgr2 hown2 hgr5 hown5 hX2 hsz2 hat2 hlt2 hat5 hlt5 hownB hownX hB hG1 hcell1 hsz1
          go_wp2_with fail
          go_roundg (len0 - (k + 1))
          case rel =>
            obtain ⟨⟨B', C', Q', R', hP'⟩, hb'⟩ := HS.out
            exact ⟨k + 1, B', C', Q', R', by omega, by omega, by go_num, hP', hb' _ hbr⟩
          case measure => have := HG.out; omega
      · obtain rfl : k = len0 := by omega
        clear HG hlt hk
        obtain ⟨gb, cb, rfl, _, _⟩ := HP.out.rowB.form (by omega)
        obtain ⟨gx, cx, rfl, _, _⟩ := HP.out.rowX.form (by omega)
        go_wp2_with fail
        go_loopg [9] 100 (fun g i wt => ∃ (j : Nat) (V : Nat → Value) (L : Nat → List Int), j ≤ len1 ∧ g + j = 100 ∧ i = .int .i64 j ∧ PS k w.heap.size wt (.slice (some ⟨gb, 0, none⟩) k cb) (.slice (some ⟨gx, 0, none⟩) k cx) B C Q R V L ∧ Below w.heap.size w wt)
        case atStart => exact ⟨0, nilV, nilL, Nat.zero_le _, rfl, rfl, HP.out, hbr⟩
        case round =>
          clear hbr hsz HP
          obtain ⟨j, V, L, hj, hg, rfl, hP, hbt⟩ := hrel
          have hj100 : j ≤ 100 := by omega
          have HG := Lib.hid hg
          have HP := Lib.hid hP
          clear hg hP
          by_cases hjl : j < len1
          · by_cases hjh : j < 100
            · obtain ⟨ad, rfl, hb, hk0, hk1, hk2⟩ := HC1.out j hjl
              have hcell0 := cell_below hbt (by rw [add_block]; exact hb) hk0
              have hcell1 := cell_below hbt (by rw [add_block]; exact hb) hk1
              have hcell2 := cell_below hbt (by rw [add_block]; exact hb) hk2
              rw [add_fld _ _ _ (by decide)] at hcell1 hcell2
              clear hk0 hk1 hk2
              obtain ⟨⟨c0, c1, c2⟩, hz⟩ : ∃ c, z1 j = c := ⟨_, rfl⟩
              rw [hz] at hcell0 hcell1 hcell2
              clear hz
              obtain ⟨m, hm, hbits⟩ := and1023 c1
              obtain ⟨y, hy, hmod⟩ : ∃ y : Nat, y < k ∧ (m : Int) % (k : Int) = (y : Int) := ⟨m % k, Nat.mod_lt _ (by omega), by simp⟩
              have hpb : wr.cell? ⟨gb, y, none⟩ = some (.pointer (some ⟨B y, 0, none⟩)) := by
                rw [HP.out.rowB.cellAt y (by omega)]
                simp [ptrs, hy]
              have hpx : wr.cell? ⟨gx, y, none⟩ = some (.pointer (some ⟨Q y, 0, none⟩)) := by
                rw [HP.out.rowX.cellAt y (by omega)]
                simp [ptrs, hy]
              by_cases e1 : c0 = 1
              · subst e1
                by_cases hroom : (L y).length < R y
                · have HPD := Lib.hid (show PS k w.heap.size wr.drew _ _ B C Q R V L from HP.out.drewN 1)
                  have HB0 := Lib.hid (HPD.out.box y hy).2.2
                  have HR0 := Lib.hid HP.out.room
                  have HOFF := Lib.hid (HP.out.off_rows hy)
                  have HAD : Hid ((ad.add (j * 3)).block < w.heap.size) := Lib.hid (by rw [add_block]; exact hb)
                  have hNr : w.heap.size ≤ wr.heap.size := HP.out.size
                  have hRy : R y ≤ 1000 := (HR0.out y hy).2
                  go_wp2_with fail
                  go_region_held3 (fun w' => w'.cell? ⟨gb, y, none⟩ = some (.pointer (some ⟨B y, 0, none⟩)) ∧ w'.cell? ⟨(ad.add (j * 3)).block, (ad.add (j * 3)).off + 2, none⟩ = some (.int .i64 c2) ∧ w'.cell? ⟨gx, y, none⟩ = some (.pointer (some ⟨Q y, 0, none⟩)))
                    (first | go_keep | exact ⟨grown_cell HB0.out hO2.grown hpb, grown_cell HB0.out hO2.grown hcell2, grown_cell HB0.out hO2.grown hpx⟩ | exact ⟨ref_keep hS3 (grown_cell HB0.out hO2.grown hpb) HOFF.out.1, ref_keep hS3 (grown_cell HB0.out hO2.grown hcell2) (HOFF.out.2.2 _ HAD.out), ref_keep hS3 (grown_cell HB0.out hO2.grown hpx) HOFF.out.2.1⟩)
                    (first
                      | (go_at_call 9; refine (put_yes _ _ _ (L y) _ _ HB0.out hroom).mono ?_; rintro e w2 ⟨rfl, hB2, hO2⟩)
                      | (go_at_call 19; refine (ref_put_room w.heap.size (Q y) (R y) (V y) (L y) _ _ (HPD.out.ref_after hy hO2.grown) hroom hRy (Nat.le_trans HPD.out.size hO2.grown.size)).mono ?_; rintro e w3 ⟨rfl, V1, hR3, hS3⟩))
                  obtain ⟨hP3, hb3, hbox3⟩ := HPD.out.both hy hO2.grown hB2 hR3 hS3 (by rw [List.length_append]; simp; omega)
                  have hbE := hb3 _ (below_drewN hbt 1)
                  have HP3 := Lib.hid hP3
                  clear hR3 hS3 hP3 hb3 hbox3 hpb hpx hbt hB2 hO2 hcell2 hNr
                  have hpbE : w3.cell? ⟨gb, y, none⟩ = some (.pointer (some ⟨B y, 0, none⟩)) := by
                    rw [HP3.out.rowB.cellAt y (by omega)]
                    simp [ptrs, hy]
                  have hpxE : w3.cell? ⟨gx, y, none⟩ = some (.pointer (some ⟨Q y, 0, none⟩)) := by
                    rw [HP3.out.rowX.cellAt y (by omega)]
                    simp [ptrs, hy]
                  obtain ⟨avE, cvE, hqE⟩ := ref_cell HP3.out hy (L y ++ [c2]) (by first | rfl | (rw [upd_same]) | exact HLE.out)
                  have HBX := Lib.hid (box_cell HP3.out hy (L y ++ [c2]) (by first | rfl | (rw [upd_same]) | exact HLE.out))
                  have HBL := Lib.hid hbE
                  clear hbE
                  have HPX := Lib.hid (And.intro hpbE hpxE)
                  go_wp2_with fail
                  go_quiet ((go_at_call 11; exact Calls.quiet_of_same (len_same _ _ _ _ _ (HBX.out))))
                  go_wp2_with fail
                  go_roundg (100 - (j + 1))
                  case rel => exact ⟨j + 1, _, _, by omega, by omega, by go_num, HP3.out.drewN _, below_drewN HBL.out _⟩
                  case measure => have := HG.out; omega
                · have HPZ := HP
                  go_wp2_with fail
                  go_quiet (first | (go_at_call 9; exact quiet_no (put_no _ _ _ (L y) _ _ ((HPZ.out.drewN _).box y hy).2.2 (by omega))) | (go_at_call 19; exact quiet_dr (ref_put_full w.heap.size (Q y) (R y) (V y) (L y) _ _ ((HPZ.out.drewN _).ref y hy).2 (by omega))))
                  have HPD := Lib.hid (HP.out.drewN nq)
                  have hbE := below_drewN hbt nq
                  clear hpb hpx hbt hcell2
                  generalize wr.drewN nq = w3 at *
                  have hpbE : w3.cell? ⟨gb, y, none⟩ = some (.pointer (some ⟨B y, 0, none⟩)) := by
                    rw [HPD.out.rowB.cellAt y (by omega)]
                    simp [ptrs, hy]
                  have hpxE : w3.cell? ⟨gx, y, none⟩ = some (.pointer (some ⟨Q y, 0, none⟩)) := by
                    rw [HPD.out.rowX.cellAt y (by omega)]
                    simp [ptrs, hy]
                  obtain ⟨avE, cvE, hqE⟩ := ref_cell HPD.out hy (L y) (by first | rfl | (rw [upd_same]) | exact HLE.out)
                  have HBX := Lib.hid (box_cell HPD.out hy (L y) (by first | rfl | (rw [upd_same]) | exact HLE.out))
                  have HBL := Lib.hid hbE
                  clear hbE
                  have HPX := Lib.hid (And.intro hpbE hpxE)
                  go_wp2_with fail
                  go_quiet ((go_at_call 11; exact Calls.quiet_of_same (len_same _ _ _ _ _ (HBX.out))))
                  go_wp2_with fail
                  go_roundg (100 - (j + 1))
                  case rel => exact ⟨j + 1, _, _, by omega, by omega, by go_num, HPD.out.drewN _, below_drewN HBL.out _⟩
                  case measure => have := HG.out; omega
              · by_cases e2 : c0 = 2
                · subst e2
                  cases hL : L y with
                  | nil =>
                    have HLE := Lib.hid hL
                    have hB0 : BoxAt 56 wr (B y) (C y) (R y) (vals []) := by
                      have := (HP.out.box y hy).2.2
                      rwa [hL] at this
                    have hR0 : RefAt wr w.heap.size (Q y) (R y) (V y) [] := by
                      have := (HP.out.ref y hy).2
                      rwa [hL] at this
                    clear hL
                    have HB0 := Lib.hid hB0
                    have HR0 := Lib.hid hR0
                    clear hB0 hR0
                    go_wp2_with fail
                    refine (take_no _ _ _ _ HB0.out).mono ?_
                    rintro e w2 ⟨rfl, rfl⟩
                    go_wp2_with fail
                    refine (ref_take_none _ _ _ _ _ HR0.out).mono ?_
                    rintro e w2 ⟨rfl, rfl⟩
                    have hpbE : wr.cell? ⟨gb, y, none⟩ = some (.pointer (some ⟨B y, 0, none⟩)) := by
                      rw [HP.out.rowB.cellAt y (by omega)]
                      simp [ptrs, hy]
                    have hpxE : wr.cell? ⟨gx, y, none⟩ = some (.pointer (some ⟨Q y, 0, none⟩)) := by
                      rw [HP.out.rowX.cellAt y (by omega)]
                      simp [ptrs, hy]
                    obtain ⟨avE, cvE, hqE⟩ := ref_cell HP.out hy [] (by first | rfl | (rw [upd_same]) | exact HLE.out)
                    have HBX := Lib.hid (box_cell HP.out hy [] (by first | rfl | (rw [upd_same]) | exact HLE.out))
                    have HBL := Lib.hid hbt
                    clear hbt
                    have HPX := Lib.hid (And.intro hpbE hpxE)
                    go_wp2_with fail
                    go_quiet ((go_at_call 11; exact Calls.quiet_of_same (len_same _ _ _ _ _ (HBX.out))))
                    go_wp2_with fail
                    go_roundg (100 - (j + 1))
                    case rel => exact ⟨j + 1, _, _, by omega, by omega, by go_num, HP.out.drewN _, below_drewN HBL.out _⟩
                    case measure => have := HG.out; omega
                  | cons x L1 =>
                    have HLE := Lib.hid hL
                    have hB0 : BoxAt 56 wr (B y) (C y) (R y) (vals (x :: L1)) := by
                      have := (HP.out.box y hy).2.2
                      rwa [hL] at this
                    have hlen : L1.length + 1 ≤ R y ∧ R y ≤ 1000 := by
                      have := HP.out.room y hy
                      rw [hL] at this
                      simpa using this
                    clear hL
                    have HB0 := Lib.hid hB0
                    clear hB0
                    go_wp2_with fail
                    refine (take_yes _ _ _ L1 x _ HB0.out).mono ?_
                    rintro e w2 ⟨rfl, hB2, hO2⟩
                    have hG2 := hO2.grown
                    have hpx2 := grown_cell HB0.out hG2 hpx
                    have hR2 : RefAt w2 w.heap.size (Q y) (R y) (V y) (x :: L1) := by
                      have := HP.out.ref_after hy hG2
                      rwa [HLE.out] at this
                    have HR2 := Lib.hid hR2
                    have HB2 := Lib.hid (And.intro hB2 hG2)
                    have hN2 : w.heap.size ≤ w2.heap.size := Nat.le_trans HP.out.size hG2.size
                    clear hB2 hO2 hG2 hR2
                    go_wp2_with fail
                    refine (ref_take_some _ _ _ _ x L1 _ HR2.out (by omega) hN2).mono ?_
                    rintro e w3 ⟨rfl, V1, hR3, hS3⟩
                    obtain ⟨hP3, hb3, hbox3⟩ := HP.out.both hy HB2.out.2 HB2.out.1 hR3 hS3 (by omega)
                    have hbE := hb3 _ hbt
                    have HP3 := Lib.hid hP3
                    clear hR3 hS3 hP3 hb3 hbox3 hpb hpx hpx2 hbt
                    have hpbE : w3.cell? ⟨gb, y, none⟩ = some (.pointer (some ⟨B y, 0, none⟩)) := by
                      rw [HP3.out.rowB.cellAt y (by omega)]
                      simp [ptrs, hy]
                    have hpxE : w3.cell? ⟨gx, y, none⟩ = some (.pointer (some ⟨Q y, 0, none⟩)) := by
                      rw [HP3.out.rowX.cellAt y (by omega)]
                      simp [ptrs, hy]
                    obtain ⟨avE, cvE, hqE⟩ := ref_cell HP3.out hy L1 (by first | rfl | (rw [upd_same]) | exact HLE.out)
                    have HBX := Lib.hid (box_cell HP3.out hy L1 (by first | rfl | (rw [upd_same]) | exact HLE.out))
                    have HBL := Lib.hid hbE
                    clear hbE
                    have HPX := Lib.hid (And.intro hpbE hpxE)
                    go_wp2_with fail
                    go_quiet ((go_at_call 11; exact Calls.quiet_of_same (len_same _ _ _ _ _ (HBX.out))))
                    go_wp2_with fail
                    go_roundg (100 - (j + 1))
                    case rel => exact ⟨j + 1, _, _, by omega, by omega, by go_num, HP3.out.drewN _, below_drewN HBL.out _⟩
                    case measure => have := HG.out; omega
                · by_cases e3 : c0 = 3
                  · subst e3
                    rcases first_full L k with he | ⟨jj, x, L1, hjj, hL, he⟩
                    · have HE := Lib.hid (HP.out.empties k (Nat.le_refl _) he)
                      have HF := Lib.hid (HP.out.ref_empties hy (only_refl wr _) k (Nat.le_refl _) he)
                      clear he hpb hpx hcell2
                      go_wp2_with fail
                      refine (first_none _ _ _ _ (by omega) HE.out).mono ?_
                      rintro e w2 ⟨rfl, rfl⟩
                      go_wp2_with fail
                      refine (ref_first_none _ _ _ w.heap.size _ (by omega) HF.out).mono ?_
                      rintro e w2 ⟨rfl, rfl⟩
                      have hpbE : wr.cell? ⟨gb, y, none⟩ = some (.pointer (some ⟨B y, 0, none⟩)) := by
                        rw [HP.out.rowB.cellAt y (by omega)]
                        simp [ptrs, hy]
                      have hpxE : wr.cell? ⟨gx, y, none⟩ = some (.pointer (some ⟨Q y, 0, none⟩)) := by
                        rw [HP.out.rowX.cellAt y (by omega)]
                        simp [ptrs, hy]
                      obtain ⟨avE, cvE, hqE⟩ := ref_cell HP.out hy (L y) (by first | rfl | (rw [upd_same]) | exact HLE.out)
                      have HBX := Lib.hid (box_cell HP.out hy (L y) (by first | rfl | (rw [upd_same]) | exact HLE.out))
                      have HBL := Lib.hid hbt
                      clear hbt
                      have HPX := Lib.hid (And.intro hpbE hpxE)
                      go_wp2_with fail
                      go_quiet ((go_at_call 11; exact Calls.quiet_of_same (len_same _ _ _ _ _ (HBX.out))))
                      go_wp2_with fail
                      go_roundg (100 - (j + 1))
                      case rel => exact ⟨j + 1, _, _, by omega, by omega, by go_num, HP.out.drewN _, below_drewN HBL.out _⟩
                      case measure => have := HG.out; omega
                    · have HLE := Lib.hid hL
                      have hB0 : BoxAt 56 wr (B jj) (C jj) (R jj) (vals (x :: L1)) := by
                        have := (HP.out.box jj hjj).2.2
                        rwa [hL] at this
                      have hlen : L1.length + 1 ≤ R jj ∧ R jj ≤ 1000 := by
                        have := HP.out.room jj hjj
                        rw [hL] at this
                        simpa using this
                      have HB0 := Lib.hid hB0
                      have HE := Lib.hid (HP.out.empties jj (by omega) he)
                      have HH := Lib.hid he
                      have hpj : wr.cell? ((⟨gb, 0, none⟩ : Addr).add jj) = some (.pointer (some ⟨B jj, 0, none⟩)) := by
                        rw [add_zero_off, HP.out.rowB.cellAt jj (by omega)]
                        simp [ptrs, hjj]
                      have hxj : wr.cell? ((⟨gx, 0, none⟩ : Addr).add jj) = some (.pointer (some ⟨Q jj, 0, none⟩)) := by
                        rw [add_zero_off, HP.out.rowX.cellAt jj (by omega)]
                        simp [ptrs, hjj]
                      have HPJ := Lib.hid hpj
                      have HXJ := Lib.hid hxj
                      clear he hpb hpx hcell2 hL hB0 hpj hxj
                      go_wp2_with fail
                      refine (first_some _ _ _ _ (by omega) jj hjj (B jj) (C jj) (R jj) x L1 HE.out ⟨_, rfl, HPJ.out⟩ HB0.out).mono ?_
                      rintro e w2 ⟨rfl, hB2, hO2⟩
                      have hG2 := hO2.grown
                      have HB2 := Lib.hid (And.intro hB2 hG2)
                      have hN2 : w.heap.size ≤ w2.heap.size := Nat.le_trans HP.out.size hG2.size
                      have hR2 : RefAt w2 w.heap.size (Q jj) (R jj) (V jj) (x :: L1) := by
                        have := HP.out.ref_after hjj hG2
                        rwa [HLE.out] at this
                      have HR2 := Lib.hid hR2
                      have HF := Lib.hid (HP.out.ref_empties hjj hG2 jj (by omega) HH.out)
                      have HX2 := Lib.hid (grown_cell HB0.out hG2 HXJ.out)
                      clear hB2 hO2 hG2 hR2
                      go_wp2_with fail
                      refine (ref_first_some _ _ _ w.heap.size _ (by omega) jj hjj (Q jj) (R jj) (V jj) x L1 (by omega) hN2 HF.out ⟨_, rfl, HX2.out⟩ HR2.out).mono ?_
                      rintro e w3 ⟨rfl, V1, hR3, hS3⟩
                      obtain ⟨hP3, hb3, hbox3⟩ := HP.out.both hjj HB2.out.2 HB2.out.1 hR3 hS3 (by omega)
                      have hbE := hb3 _ hbt
                      have HP3 := Lib.hid hP3
                      clear hR3 hS3 hP3 hb3 hbox3 hbt
                      have hpbE : w3.cell? ⟨gb, y, none⟩ = some (.pointer (some ⟨B y, 0, none⟩)) := by
                        rw [HP3.out.rowB.cellAt y (by omega)]
                        simp [ptrs, hy]
                      have hpxE : w3.cell? ⟨gx, y, none⟩ = some (.pointer (some ⟨Q y, 0, none⟩)) := by
                        rw [HP3.out.rowX.cellAt y (by omega)]
                        simp [ptrs, hy]
                      obtain ⟨avE, cvE, hqE⟩ := ref_cell HP3.out hy (upd L jj L1 y) (by first | rfl | (rw [upd_same]) | exact HLE.out)
                      have HBX := Lib.hid (box_cell HP3.out hy (upd L jj L1 y) (by first | rfl | (rw [upd_same]) | exact HLE.out))
                      have HBL := Lib.hid hbE
                      clear hbE
                      have HPX := Lib.hid (And.intro hpbE hpxE)
                      go_wp2_with fail
                      go_quiet ((go_at_call 11; exact Calls.quiet_of_same (len_same _ _ _ _ _ (HBX.out))))
                      go_wp2_with fail
                      go_roundg (100 - (j + 1))
                      case rel => exact ⟨j + 1, _, _, by omega, by omega, by go_num, HP3.out.drewN _, below_drewN HBL.out _⟩
                      case measure => have := HG.out; omega
                  · have hR := HP.out.room y hy
                    go_wp2_with fail
                    refine (drain_int (B y) (C y) (R y) (L y) _ (HP.out.box y hy).2.2 (by omega)).mono ?_
                    rintro e w2 ⟨v', rfl, hown, hB2, hG2⟩
                    obtain ⟨ao, cp, rfl⟩ := own_shape hown
                    have HD := Lib.hid (own_cells hown)
                    have hpx2 := grown_cell (HP.out.box y hy).2.2 hG2 hpx
                    have hR2 := HP.out.ref_after hy hG2
                    have HR2 := Lib.hid hR2
                    obtain ⟨av, cv, hv⟩ := own_shape hR2.2
                    have hq2 : w2.cell? ⟨Q y, 0, none⟩ = some (.slice av (L y).length cv) := by
                      rw [cell_of hR2.1 0]
                      simp [hv]
                    have hf2 : w2.frozen? ⟨Q y, 0, none⟩ = false := free_of hR2.1 0
                    have hE := hR2.2
                    rw [hv] at hE
                    have HE := Lib.hid (own_cells hE)
                    have HB2 := Lib.hid (And.intro hB2 hG2)
                    clear hown hB2 hG2 hR2 hv hE hpb hpx hcell0 hcell2
                    go_wp2_with fail
                    go_loopg [22] (L y).length (fun g i wt => ∃ (q m : Nat), q ≤ (L y).length ∧ g + q = (L y).length ∧ i = .int .i64 q ∧ wt = w2.drewN m)
                    case atStart => exact ⟨0, 0, Nat.zero_le _, rfl, rfl, rfl⟩
                    case round =>
                      obtain ⟨q, nd, hq, hgq, rfl, rfl⟩ := hrel
                      have HGQ := Lib.hid hgq
                      clear hgq
                      by_cases hql : q < (L y).length
                      · obtain ⟨ad1, rfl, _, _, hcl1⟩ := HD.out q hql
                        obtain ⟨ad2, rfl, _, _, hcl2⟩ := HE.out q hql
                        rw [vals_get _ _ hql] at hcl1 hcl2
                        go_wp2_with fail
                        go_quiet (fail)
                        go_wp2_with fail
                        go_roundg ((L y).length - (q + 1))
                        case rel => exact ⟨q + 1, _, by omega, by omega, by go_num, rfl⟩
                        case measure => have := HGQ.out; omega
                      · obtain ⟨hR3, hS3⟩ := ref_struck (show RefAt (w2.drewN nd) w.heap.size (Q y) (R y) (V y) (L y) from HR2.out)
                        obtain ⟨hP3, hb3, hbox3⟩ := HP.out.both hy (show wr.grownBy (w2.drewN nd) (some (C y)) from ⟨HB2.out.2.os, HB2.out.2.tape, HB2.out.2.output, HB2.out.2.size, HB2.out.2.block⟩) HB2.out.1 hR3 hS3 (by simp)
                        have hbE := hb3 _ hbt
                        have HP3 := Lib.hid hP3
                        have HBE := Lib.hid hbE
                        clear hR3 hS3 hP3 hb3 hbox3 hbt hbE
                        go_wp2_with fail
                        obtain ⟨w3, hw3⟩ : ∃ w3, w3 = (w2.drewN nd).setCell ⟨Q y, 0, none⟩ (.slice none 0 0) := ⟨_, rfl⟩
                        have HP4 : Hid (PS k w.heap.size w3 (.slice (some ⟨gb, 0, none⟩) k cb) (.slice (some ⟨gx, 0, none⟩) k cx) B C Q R (upd V y (.slice none 0 0)) (upd L y [])) := by rw [hw3]; exact HP3
                        have hbE : Below w.heap.size w w3 := by rw [hw3]; exact HBE.out
                        rw [← hw3]
                        clear hw3 HP3 HBE
                        have hpbE : w3.cell? ⟨gb, y, none⟩ = some (.pointer (some ⟨B y, 0, none⟩)) := by
                          rw [HP4.out.rowB.cellAt y (by omega)]
                          simp [ptrs, hy]
                        have hpxE : w3.cell? ⟨gx, y, none⟩ = some (.pointer (some ⟨Q y, 0, none⟩)) := by
                          rw [HP4.out.rowX.cellAt y (by omega)]
                          simp [ptrs, hy]
                        obtain ⟨avE, cvE, hqE⟩ := ref_cell HP4.out hy [] (by first | rfl | (rw [upd_same]) | exact HLE.out)
                        have HBX := Lib.hid (box_cell HP4.out hy [] (by first | rfl | (rw [upd_same]) | exact HLE.out))
                        have HBL := Lib.hid hbE
                        clear hbE
                        have HPX := Lib.hid (And.intro hpbE hpxE)
                        go_wp2_with fail
                        go_quiet ((go_at_call 11; exact Calls.quiet_of_same (len_same _ _ _ _ _ (HBX.out))))
                        go_wp2_with fail
                        go_roundg (100 - (j + 1))
                        case rel => exact ⟨j + 1, _, _, by omega, by omega, by go_num, HP4.out.drewN _, below_drewN HBL.out _⟩
                        case measure => have := HG.out; omega
            · go_wp2_with fail
              refine (known_true _).mono ?_
              rintro e w4 ⟨rfl, hb4⟩
              have hb5 := hbt.trans (hb4.mono hbt.size)
              clear hbt hb4
              go_wp2_with fail
              go_ret
              exact ⟨rfl, hb5⟩
          · go_wp2_with fail
            refine (known_true _).mono ?_
            rintro e w4 ⟨rfl, hb4⟩
            have hb5 := hbt.trans (hb4.mono hbt.size)
            clear hbt hb4
            go_wp2_with fail
            go_ret
            exact ⟨rfl, hb5⟩
end Go.Proofs.Ytadcdnenecmbgaa
