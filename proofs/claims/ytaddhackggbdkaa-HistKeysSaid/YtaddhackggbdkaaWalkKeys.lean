/- HistKeys answers true of whatever events and number; walked; conditions: the events lie in the world. -/
import Derived.Test.YtaddhackggbdkaaGetB
import Derived.Test.YtaddhackggbdkaaKnown
namespace Go.Proofs.Ytaddhackggbdkaa
open Go.RowKit Go.Maps Go.Proofs.YtaddhackggbdkaaW.PrintWords Go.Proofs.YtaddhackggbdkaaW.PrintLast Go.Proofs.YtaddhackggbdkaaW.PrintMore PHistTells
set_option maxRecDepth 100000 in
set_option maxHeartbeats 4000000 in
theorem keys_out (A : Option Addr) (c L : Nat) (n : Int) (w : World) (hout : 200 < L ∨ n < 1 ∨ 20 < n) :
    Calls Try.prog 4 #[.slice A L c, .int .i64 n] w fun e w' => e = .returned (.bool true) ∧ Below w.heap.size w w' := by
  have hb : Below w.heap.size w (w.alloc (.cells #[.int .i64 n] 3)) := (Below.refl _ _).alloc (Nat.le_refl _) _
  by_cases h1 : 200 < L
  · clear hout
    go_enter Try.func4, Try.ntmps4
    go_wp2_with fail
    go_ret
    exact ⟨rfl, hb⟩
  · by_cases h2 : n < 1
    · clear hout
      go_enter Try.func4, Try.ntmps4
      go_wp2_with fail
      go_ret
      exact ⟨rfl, hb⟩
    · have h3 : 20 < n := by omega
      clear hout
      go_enter Try.func4, Try.ntmps4
      go_wp2_with fail
      go_ret
      exact ⟨rfl, hb⟩
set_option maxRecDepth 100000 in
set_option maxHeartbeats 4000000 in
theorem keys_walk (A : Option Addr) (c : Nat) (l : List S39) (n : Int) (w : World) (h : Rd w A l) (_ : l.length ≤ c) (hz : A = none → c = 0) :
    Calls Try.prog 4 #[.slice A l.length c, .int .i64 n] w fun e w' => e = .returned (.bool true) ∧ Below w.heap.size w w' := by
  by_cases hout : 200 < l.length ∨ n < 1 ∨ 20 < n
  · exact keys_out A c l.length n w hout
  · have hl : ¬ 200 < l.length := by omega
    have hn1 : ¬ n < 1 := by omega
    have hn2 : ¬ 20 < n := by omega
    have HL : Hid (l.length ≤ 200) := Lib.hid (by omega)
    have HN : Hid (1 ≤ n ∧ n ≤ 20) := Lib.hid (by omega)
    clear hout
    have HR := Lib.hid h
    obtain ⟨W0, hW0⟩ : ∃ W0, w.alloc (.cells #[.int .i64 n] 3) = W0 := ⟨_, rfl⟩
    have HB0 : Hid (Below w.heap.size w W0) := Lib.hid (by rw [← hW0]; exact (Below.refl _ _).alloc (Nat.le_refl _) _)
    have c0 : W0.cell? ⟨w.heap.size, 0, none⟩ = some (.int .i64 n) := by rw [← hW0]; exact cell_of (heap_alloc_new w _) 0
    clear h
    go_enter Try.func4, Try.ntmps4
    go_wp2_with fail
    have HC0 := Lib.hid c0
    have HS0 : Hid (w.heap.size < W0.heap.size) := Lib.hid (lt_of_cell c0)
    clear c0 hW0
    refine (new19 20 #[.pointer (some ⟨w.heap.size, 0, none⟩)] (key20 n) W0).mono ?_
    rintro e w1 ⟨rfl, hI, hb1, hs1⟩
    have HI := Lib.hid hI
    have HB1 := Lib.hid (HB0.out.trans (hb1.mono HB0.out.size))
    have HBb := Lib.hid hb1
    clear hI hb1 hs1
    go_wp2_with fail
    refine (new21 22 #[] key24 w1).mono ?_
    rintro e w2 ⟨rfl, hJ, hb2, hs2⟩
    have HJ := Lib.hid hJ
    have HB2 := Lib.hid (HB1.out.trans (hb2.mono HB1.out.size))
    have HBc := Lib.hid hb2
    clear hJ hb2 hs2
    go_wp2_with fail
    have hA := add20 w.heap.size n (W0.heap.size + 1) W0.heap.size w.heap.size _ [] _ A c l w2 ((HI.out.below HBc.out).weak HB0.out.size) (HR.out.below HB2.out) (fun ad e hne hF => by
      have h1 : W0.heap.size ≤ ad.block := hF.1
      have h2 := HB0.out.size
      rcases HR.out with h | ⟨ad', e', hlt, _⟩
      · exact hne h
      · rw [e] at e'
        injection e' with e'
        subst e'
        omega) HN.out.1 (cell_below (HBb.out.trans (HBc.out.mono HBb.out.size)) HS0.out HC0.out) (fun hF => by
      have h1 : W0.heap.size ≤ w.heap.size := hF.1
      have h2 := HS0.out
      omega) (by have := HL.out; simp only [List.length_nil]; omega)
    refine hA.mono ?_
    rintro e w3 ⟨rfl, V3, hX3, hT3⟩
    obtain ⟨F, G, V, U, mb, nb, HT⟩ : ∃ F G V U mb nb, Hid (Two w w3 n w.heap.size A l l (l.take 0) (W0.heap.size + 1) mb (w1.heap.size + 1) nb F G V U) := by
      have s1 := HBb.out.size
      have s2 := HBc.out.size
      have s0 := HB0.out.size
      have sb := HS0.out
      refine ⟨_, fun i => w1.heap.size ≤ i ∧ i < w2.heap.size, _, fun _ => nilS, _, _, Lib.hid ⟨HB2.out.trans (hT3.below (fun i hi => Nat.le_trans s0 hi.1) HB2.out.size), cell_turn hT3 (fun hF => ?_) (cell_below (HBb.out.trans (HBc.out.mono HBb.out.size)) HS0.out HC0.out), (HR.out.below HB2.out).mono hT3.size (fun ad e hne => hT3.block _ ?_ (fun hF => ?_)), hX3, (HJ.out.same hT3.size (fun i hi => hT3.block i hi.2 (fun hF => ?_))).weak (by omega), fun i hi hG => ?_, fun hG => ?_, fun ad e hne hG => ?_⟩⟩
      · have h1 : W0.heap.size ≤ w.heap.size := hF.1
        omega
      · rcases HR.out with h | ⟨ad', e', hlt, _⟩
        · exact absurd h hne
        · rw [e] at e'
          injection e' with e'
          subst e'
          omega
      · have h1 : W0.heap.size ≤ ad.block := hF.1
        rcases HR.out with h | ⟨ad', e', hlt, _⟩
        · exact absurd h hne
        · rw [e] at e'
          injection e' with e'
          subst e'
          omega
      · have h1 : i < w1.heap.size := hF.2
        have h2 : w1.heap.size ≤ i := hi.1
        omega
      · have h2 : w1.heap.size ≤ i ∧ i < w2.heap.size := hG
        rcases hi with hi | hi
        · have h1 : i < w1.heap.size := hi.2
          omega
        · have h1 : w2.heap.size ≤ i := hi.1
          omega
      · have h1 : w1.heap.size ≤ w.heap.size := hG.1
        omega
      · have h1 : w1.heap.size ≤ ad.block := hG.1
        rcases HR.out with h | ⟨ad', e', hlt, _⟩
        · exact absurd h hne
        · rw [e] at e'
          injection e' with e'
          subst e'
          omega
    clear hX3 hT3 hA HI HJ HBb HBc HB1 HB2 HC0 HS0 HB0 HR
    generalize W0.heap.size + 1 = ib at *
    generalize w1.heap.size + 1 = jb at *
    clear w2 w1 W0
    obtain ⟨pb, hpb⟩ : ∃ pb, w.heap.size = pb := ⟨_, rfl⟩
    rw [hpb] at HT ⊢
    go_wp2_with fail
    go_loopg [7] l.length (fun g i wr => ∃ j, j ≤ l.length ∧ g + j = l.length ∧ i = .int .i64 j ∧ ∃ G U, Hid (Two w wr n pb A l l (l.take j) ib mb jb nb F G V U))
    case atStart => exact ⟨0, Nat.zero_le _, rfl, rfl, _, _, HT⟩
    case round =>
      obtain ⟨j, hj, hg, rfl, G', U', HI⟩ := hrel
      have HG := Lib.hid hg
      clear hg HT
      by_cases hlt : j < l.length
      · have hev := event_at HI.out.rd (by have := HL.out; omega) hlt
        obtain ⟨ad, e, hadlt, c0, c1, c2, c3, c4⟩ := hev
        have HTK : Hid (l.take (j + 1) = l.take j ++ [l[j]]) := Lib.hid (by rw [List.take_add_one, List.getElem?_eq_getElem hlt]; rfl)
        generalize hx : l[j] = x at *
        clear hx
        obtain ⟨W1, hW1⟩ : ∃ W1, wr.alloc (.cells #[.int .i64 x.f0, .bool x.f1, .int .i64 x.f2, .int .i64 x.f3, .int .i64 x.f4] 39) = W1 := ⟨_, rfl⟩
        have hB1 : Below wr.heap.size wr W1 := by rw [← hW1]; exact (Below.refl _ _).alloc (Nat.le_refl _) _
        have hR1 : Rd W1 (some ⟨wr.heap.size, 0, none⟩) [x] := by rw [← hW1]; exact rd_one (heap_alloc_new wr _)
        have HI1 := Lib.hid (HI.out.below hB1)
        have HA := Lib.hid (add24 jb nb w.heap.size G' (l.take j) U' (some ⟨wr.heap.size, 0, none⟩) 1 [x] W1 HI1.out.y hR1 (fun ad e _ hG => by
          injection e with e
          subst e
          have : wr.heap.size < wr.heap.size := (HI.out.y.low _ hG).2
          omega) (by have := HL.out; rw [List.length_take, List.length_singleton]; omega))
        subst e
        clear hB1 hR1
        go_wp2_with fail
        refine HA.out.mono ?_
        rintro e w4 ⟨rfl, U4, hY4, hT4⟩
        have HI4 := Lib.hid (HI1.out.add hT4 hY4)
        clear hY4 hT4 HA HI1 HI c0 c1 c2 c3 c4 hW1
        go_wp2_with fail
        go_roundg (l.length - (j + 1))
        case rel =>
          refine ⟨j + 1, by omega, by omega, rfl, (fun i => G' i ∨ (W1.heap.size ≤ i ∧ i < w4.heap.size)), U4, ?_⟩
          rw [HTK.out]
          exact HI4
        case measure => have := HG.out; omega
      · have hjp : j = l.length := by omega
        subst hjp
        have HX := Lib.hid HI.out
        rw [List.take_length] at HX
        clear HI
        go_wp2_with fail
        go_loopg [8] 16 (fun g i wk => ∃ k : Nat, k ≤ 16 ∧ g + k = 16 ∧ i = .int .i64 (k : Int) ∧ Hid (Two w wk n pb A l l l ib mb jb nb F G' V U'))
        case atStart => exact ⟨0, by omega, rfl, rfl, HX⟩
        case round =>
          obtain ⟨k, hk, hg, rfl, HK⟩ := hrel
          have HKG := Lib.hid hg
          clear hg HX
          by_cases hkl : k < 16
          · obtain ⟨wk, hwk⟩ : ∃ wk, wk = wr := ⟨_, rfl⟩
            subst hwk
            go_wp2_with fail
            rw [show decide ((k : Int) < 16) = true from decide_eq_true (by omega)]
            go_loopg [9, 10] l.length (fun g v i wq => ∃ j, j ≤ l.length ∧ g + j = l.length ∧ i = .int .i64 (j : Int) ∧ Hid (Own wq wk.heap.size v ((l.take j).filter (p20 n k))) ∧ Hid (Below wk.heap.size wk wq))
            case atStart => exact ⟨0, Nat.zero_le _, rfl, rfl, Lib.hid (Own.nil _ _), Lib.hid (Below.refl _ _)⟩
            case round =>
              obtain ⟨j, hj, hg, rfl, HO, HBk⟩ := hrel
              have HG := Lib.hid hg
              clear hg
              have HQ := Lib.hid (HK.out.below HBk.out)
              by_cases hlt : j < l.length
              · have hev := event_at HQ.out.rd (by have := HL.out; omega) hlt
                obtain ⟨ad, e, hadlt, c0, c1, c2, c3, c4⟩ := hev
                have HTK : Hid (l.take (j + 1) = l.take j ++ [l[j]]) := Lib.hid (by rw [List.take_add_one, List.getElem?_eq_getElem hlt]; rfl)
                generalize hx : l[j] = x at *
                clear hx
                have cE := HQ.out.env
                subst e
                go_wp2_with fail
                go_quiet (fail)
                have HOd : Hid (Own (wr.drewN nq) wk.heap.size u9 ((l.take j).filter (p20 n k))) := Lib.hid (HO.out.same fun g _ => rfl)
                have HBd : Hid (Below wr.heap.size wr (wr.drewN nq)) := Lib.hid ⟨rfl, rfl, rfl, Nat.le_refl _, fun _ _ => rfl⟩
                generalize wr.drewN nq = wd at *
                have HQd := Lib.hid (HQ.out.below HBd.out)
                have HBkd := Lib.hid (HBk.out.trans (HBd.out.mono HBk.out.size))
                have hblt := hadlt
                replace c0 : wd.cell? (ad.add (j * 5)) = some (.int .i64 x.f0) := cell_below HBd.out (by rw [add_block]; exact hblt) c0
                replace c1 : wd.cell? ⟨(ad.add (j * 5)).block, (ad.add (j * 5)).off + 1, none⟩ = some (.bool x.f1) := cell_below HBd.out (by rw [add_block]; exact hblt) c1
                replace c2 : wd.cell? ⟨(ad.add (j * 5)).block, (ad.add (j * 5)).off + 2, none⟩ = some (.int .i64 x.f2) := cell_below HBd.out (by rw [add_block]; exact hblt) c2
                replace c3 : wd.cell? ⟨(ad.add (j * 5)).block, (ad.add (j * 5)).off + 3, none⟩ = some (.int .i64 x.f3) := cell_below HBd.out (by rw [add_block]; exact hblt) c3
                replace c4 : wd.cell? ⟨(ad.add (j * 5)).block, (ad.add (j * 5)).off + 4, none⟩ = some (.int .i64 x.f4) := cell_below HBd.out (by rw [add_block]; exact hblt) c4
                clear HO HQ HBd hblt cE
                have hbk : (bits .and .i64 x.f2 15).tmod n = (x.f2 % 16).tmod n := by rw [and15]
                rw [hbk]
                by_cases hq : (x.f2 % 16).tmod n = (k : Int)
                · have HP : Hid ((l.take j).filter (p20 n k) ++ [x] = (l.take (j + 1)).filter (p20 n k)) := Lib.hid (by rw [HTK.out, List.filter_append, List.filter_cons, if_pos (by simp [p20, hq]), List.filter_nil])
                  have HLN : Hid (((l.take j).filter (p20 n k)).length ≤ 200) := Lib.hid (Nat.le_trans (List.length_filter_le _ _) (by rw [List.length_take]; have := HL.out; omega))
                  generalize (l.take j).filter (p20 n k) = M at *
                  obtain ⟨W1, hW1⟩ : ∃ W1, wd.alloc (.cells #[.int .i64 x.f0, .bool x.f1, .int .i64 x.f2, .int .i64 x.f3, .int .i64 x.f4] 39) = W1 := ⟨_, rfl⟩
                  have hB1 : Below wd.heap.size wd W1 := by rw [← hW1]; exact (Below.refl _ _).alloc (Nat.le_refl _) _
                  have HR1 : Hid (Rd W1 (some ⟨wd.heap.size, 0, none⟩) [x]) := Lib.hid (by rw [← hW1]; exact rd_one (heap_alloc_new wd _))
                  have HO1 : Hid (Own W1 wk.heap.size u9 M) := Lib.hid (HOd.out.same fun g hg => hB1.block g (HOd.out.lt hg).2.1)
                  have HBk1 := Lib.hid (HBkd.out.trans (hB1.mono HBkd.out.size))
                  clear hB1 HOd HBkd
                  go_wp2_with (at_builtin; refine wpList_append_ev (p := [x]) rfl _ _ rfl _ rfl HO1.out rfl HR1.out (fun e => by cases e) (by have := HLN.out; simp only [List.length_cons, List.length_nil]; omega) HBk1.out.size ?_; intro v5 w5 ho5 hg5 hl5; have H5 : Hid (Own w5 wk.heap.size v5 (M ++ [x]) ∧ W1.grownBy w5 u9.ownBlock) := Lib.hid ⟨ho5, hg5⟩; clear ho5 hg5 hl5)
                  have HOf : Hid (Own w5 wk.heap.size v5 ((l.take (j + 1)).filter (p20 n k))) := Lib.hid (by rw [← HP.out]; exact H5.out.1)
                  have HBf : Hid (Below wk.heap.size wk w5) := Lib.hid (Below.grown HBk1.out H5.out.2 HBk1.out.size (fun g hg => (HO1.out.lt hg).1))
                  clear H5 HO1 HR1 HBk1 HP HLN c0 c1 c2 c3 c4 hW1 HQd
                  go_roundg (l.length - (j + 1))
                  case rel => exact ⟨j + 1, by omega, by omega, rfl, HOf, HBf⟩
                  case measure => have := HG.out; omega
                · have HP : Hid ((l.take j).filter (p20 n k) = (l.take (j + 1)).filter (p20 n k)) := Lib.hid (by rw [HTK.out, List.filter_append, List.filter_cons, if_neg (by simp [p20, hq]), List.filter_nil, List.append_nil])
                  rw [HP.out] at HOd
                  clear HP c0 c1 c2 c3 c4 HQd
                  go_wp2_with fail
                  go_roundg (l.length - (j + 1))
                  case rel => exact ⟨j + 1, by omega, by omega, rfl, HOd, HBkd⟩
                  case measure => have := HG.out; omega
              · have hjp : j = l.length := by omega
                subst hjp
                rw [List.take_length] at HO
                have HQe := Lib.hid (HQ.out)
                have hgt := get25 ib mb w.heap.size _ F (key20 n) l V (k : Int) wr HQ.out.x (by
                  have e1 : IntKind.i64.min = -9223372036854775808 := rfl
                  have e2 : IntKind.i64.max = 9223372036854775807 := rfl
                  simp [Lit.wf, e1, e2]
                  omega) (by have := HL.out; omega)
                rw [grp_20] at hgt
                obtain ⟨a9, c9, rfl, hle9, hrd9, -⟩ := HO.out.shape
                have HR9 := Lib.hid (And.intro hle9 hrd9)
                have HLN : Hid ((l.filter (p20 n k)).length ≤ 1000) := Lib.hid (Nat.le_trans (List.length_filter_le _ _) (by have := HL.out; omega))
                have HGT := Lib.hid hgt
                clear hgt hle9 hrd9 HO HK HQ
                go_wp2_with fail
                refine HGT.out.mono ?_
                rintro e w5 ⟨v5, rfl, ho5, hb5⟩
                obtain ⟨a5, c5, rfl, hle5, hrd5, -⟩ := ho5.shape
                have HS5 := Lib.hid (same_calls a5 c5 a9 c9 _ w5 hrd5 hle5 (HR9.out.2.below hb5) HR9.out.1 HLN.out)
                have HQ5 := Lib.hid (HQe.out.below hb5)
                clear ho5 hle5 hrd5 hb5 HR9 HLN HGT HQe
                go_wp2_with fail
                refine HS5.out.mono ?_
                rintro e w6 ⟨rfl, hb6⟩
                have HQ6 := Lib.hid (HQ5.out.below hb6)
                clear hb6 HQ5 HS5
                go_wp2_with fail
                go_roundg (16 - (k + 1))
                case rel => exact ⟨k + 1, by omega, by omega, rfl, HQ6⟩
                case measure => have := HKG.out; omega
          · have hk16 : k = 16 := by omega
            subst hk16
            go_wp2_with fail
            go_loopg [11] 4 (fun g i wk => ∃ k : Nat, k ≤ 4 ∧ g + k = 4 ∧ i = .int .i64 (k : Int) ∧ Hid (Two w wk n pb A l l l ib mb jb nb F G' V U'))
            case atStart => exact ⟨0, by omega, rfl, rfl, HK⟩
            case round =>
              obtain ⟨k, hk, hg, rfl, HK⟩ := hrel
              have HKG := Lib.hid hg
              clear hg
              by_cases hkl : k < 4
              · obtain ⟨wk, hwk⟩ : ∃ wk, wk = wr := ⟨_, rfl⟩
                subst hwk
                go_wp2_with fail
                rw [show decide ((k : Int) < 4) = true from decide_eq_true (by omega)]
                go_loopg [12, 13] l.length (fun g v i wq => ∃ j, j ≤ l.length ∧ g + j = l.length ∧ i = .int .i64 (j : Int) ∧ Hid (Own wq wk.heap.size v ((l.take j).filter (p24 k))) ∧ Hid (Below wk.heap.size wk wq))
                case atStart => exact ⟨0, Nat.zero_le _, rfl, rfl, Lib.hid (Own.nil _ _), Lib.hid (Below.refl _ _)⟩
                case round =>
                  obtain ⟨j, hj, hg, rfl, HO, HBk⟩ := hrel
                  have HG := Lib.hid hg
                  clear hg
                  have HQ := Lib.hid (HK.out.below HBk.out)
                  by_cases hlt : j < l.length
                  · have hev := event_at HQ.out.rd (by have := HL.out; omega) hlt
                    obtain ⟨ad, e, hadlt, c0, c1, c2, c3, c4⟩ := hev
                    have HTK : Hid (l.take (j + 1) = l.take j ++ [l[j]]) := Lib.hid (by rw [List.take_add_one, List.getElem?_eq_getElem hlt]; rfl)
                    generalize hx : l[j] = x at *
                    clear hx
                    subst e
                    by_cases hq : x.f4 % 4 = (k : Int)
                    · have hq3 : bits .and .i64 x.f4 3 = (k : Int) := (and3 _).trans hq
                      have HP : Hid ((l.take j).filter (p24 k) ++ [x] = (l.take (j + 1)).filter (p24 k)) := Lib.hid (by rw [HTK.out, List.filter_append, List.filter_cons, if_pos (by simp [p24, hq]), List.filter_nil])
                      have HLN : Hid (((l.take j).filter (p24 k)).length ≤ 200) := Lib.hid (Nat.le_trans (List.length_filter_le _ _) (by rw [List.length_take]; have := HL.out; omega))
                      generalize (l.take j).filter (p24 k) = M at *
                      obtain ⟨W1, hW1⟩ : ∃ W1, wr.alloc (.cells #[.int .i64 x.f0, .bool x.f1, .int .i64 x.f2, .int .i64 x.f3, .int .i64 x.f4] 39) = W1 := ⟨_, rfl⟩
                      have hB1 : Below wr.heap.size wr W1 := by rw [← hW1]; exact (Below.refl _ _).alloc (Nat.le_refl _) _
                      have HR1 : Hid (Rd W1 (some ⟨wr.heap.size, 0, none⟩) [x]) := Lib.hid (by rw [← hW1]; exact rd_one (heap_alloc_new wr _))
                      have HO1 : Hid (Own W1 wk.heap.size u12 M) := Lib.hid (HO.out.same fun g hg => hB1.block g (HO.out.lt hg).2.1)
                      have HBk1 := Lib.hid (HBk.out.trans (hB1.mono HBk.out.size))
                      clear hB1 HO HBk hq
                      go_wp2_with (at_builtin; refine wpList_append_ev (p := [x]) rfl _ _ rfl _ rfl HO1.out rfl HR1.out (fun e => by cases e) (by have := HLN.out; simp only [List.length_cons, List.length_nil]; omega) HBk1.out.size ?_; intro v5 w5 ho5 hg5 hl5; have H5 : Hid (Own w5 wk.heap.size v5 (M ++ [x]) ∧ W1.grownBy w5 u12.ownBlock) := Lib.hid ⟨ho5, hg5⟩; clear ho5 hg5 hl5)
                      have HOf : Hid (Own w5 wk.heap.size v5 ((l.take (j + 1)).filter (p24 k))) := Lib.hid (by rw [← HP.out]; exact H5.out.1)
                      have HBf : Hid (Below wk.heap.size wk w5) := Lib.hid (Below.grown HBk1.out H5.out.2 HBk1.out.size (fun g hg => (HO1.out.lt hg).1))
                      clear H5 HO1 HR1 HBk1 HP HLN c0 c1 c2 c3 c4 hW1 HQ
                      go_roundg (l.length - (j + 1))
                      case rel => exact ⟨j + 1, by omega, by omega, rfl, HOf, HBf⟩
                      case measure => have := HG.out; omega
                    · have hq3 : ¬ bits .and .i64 x.f4 3 = (k : Int) := fun h => hq ((and3 _).symm.trans h)
                      have HP : Hid ((l.take j).filter (p24 k) = (l.take (j + 1)).filter (p24 k)) := Lib.hid (by rw [HTK.out, List.filter_append, List.filter_cons, if_neg (by simp [p24, hq]), List.filter_nil, List.append_nil])
                      rw [HP.out] at HO
                      clear HP HQ hq
                      go_wp2_with fail
                      clear c0 c1 c2 c3 c4
                      go_roundg (l.length - (j + 1))
                      case rel => exact ⟨j + 1, by omega, by omega, rfl, HO, HBk⟩
                      case measure => have := HG.out; omega
                  · have hjp : j = l.length := by omega
                    subst hjp
                    rw [List.take_length] at HO
                    go_wp2_with fail
                    have hstr : ∀ h : k < ([.string ⟨#[97]⟩, .string ⟨#[98]⟩, .string ⟨#[99]⟩, .string ⟨#[100]⟩] : List Value).length, ([.string ⟨#[97]⟩, .string ⟨#[98]⟩, .string ⟨#[99]⟩, .string ⟨#[100]⟩] : List Value)[k] = .string (ltr (k : Int)) := fun _ => by
                      obtain rfl | rfl | rfl | rfl : k = 0 ∨ k = 1 ∨ k = 2 ∨ k = 3 := by omega
                      all_goals rfl
                    rw [hstr]
                    obtain ⟨W1, hW1⟩ : ∃ W1, wr.alloc (.cells #[.string ⟨#[97]⟩, .string ⟨#[98]⟩, .string ⟨#[99]⟩, .string ⟨#[100]⟩] 9) = W1 := ⟨_, rfl⟩
                    have hB1 : Below wr.heap.size wr W1 := by rw [← hW1]; exact (Below.refl _ _).alloc (Nat.le_refl _) _
                    have HQe := Lib.hid (HQ.out.below hB1)
                    have hgt := get26 jb nb w.heap.size _ G' key24 l U' (ltr (k : Int)) W1 HQe.out.y (ltr_size _) (by have := HL.out; omega)
                    rw [grp_24 (k : Int) (by omega) (by omega)] at hgt
                    obtain ⟨a9, c9, rfl, hle9, hrd9, -⟩ := HO.out.shape
                    have HR9 := Lib.hid (And.intro hle9 (hrd9.below hB1))
                    have HLN : Hid ((l.filter (p24 k)).length ≤ 1000) := Lib.hid (Nat.le_trans (List.length_filter_le _ _) (by have := HL.out; omega))
                    rw [hW1]
                    refine hgt.mono ?_
                    clear hgt hle9 hrd9 HO HK HQ hW1 hB1 hstr HBk
                    rintro e w5 ⟨v5, rfl, ho5, hb5⟩
                    obtain ⟨a5, c5, rfl, hle5, hrd5, -⟩ := ho5.shape
                    have HS5 := Lib.hid (same_calls a5 c5 a9 c9 _ w5 hrd5 hle5 (HR9.out.2.below hb5) HR9.out.1 HLN.out)
                    have HQ5 := Lib.hid (HQe.out.below hb5)
                    clear ho5 hle5 hrd5 hb5 HR9 HLN HQe
                    go_wp2_with fail
                    refine HS5.out.mono ?_
                    rintro e w6 ⟨rfl, hb6⟩
                    have HQ6 := Lib.hid (HQ5.out.below hb6)
                    clear hb6 HQ5 HS5
                    go_wp2_with fail
                    go_roundg (4 - (k + 1))
                    case rel => exact ⟨k + 1, by omega, by omega, rfl, HQ6⟩
                    case measure => have := HKG.out; omega
              · have hk16 : k = 4 := by omega
                subst hk16
                go_wp2_with fail
                refine (len27 ib mb w.heap.size _ F (key20 n) l V wr HK.out.x).mono ?_
                rintro e w4 ⟨rfl, rfl⟩
                go_wp2_with fail
                refine (len28 jb nb w.heap.size _ G' key24 l U' w4 HK.out.y).mono ?_
                rintro e w5 ⟨rfl, rfl⟩
                go_wp2_with fail
                have hgt := get26 jb nb w.heap.size _ G' key24 l U' ⟨#[122]⟩ w5 HK.out.y (by decide) (by have := HL.out; omega)
                rw [show (ByteArray.mk #[122]).data.toList = [122] from rfl, grp_z] at hgt
                refine hgt.mono ?_
                clear hgt
                rintro e w6 ⟨v6, rfl, ho6, hb6⟩
                obtain ⟨a6, c6, e6, -, -, -⟩ := ho6.shape
                rw [show ([] : List S39).length = 0 from rfl] at e6
                subst e6
                have HB6 := Lib.hid (HK.out.bel.trans (hb6.mono HK.out.bel.size))
                clear ho6 hb6 HK
                go_wp2_with fail
                refine (known_true w6).mono ?_
                rintro e w7 ⟨rfl, hb7⟩
                have HB7 := Lib.hid (HB6.out.trans (hb7.mono HB6.out.size))
                clear hb7 HB6
                go_wp2_with fail
                go_ret
                exact ⟨rfl, HB7.out⟩
end Go.Proofs.Ytaddhackggbdkaa
