/- slices.IndexFunc and DeleteFunc of events with the closure 39, walked; conditions: the events lie in memory (DeleteFunc: in a row of the call's own), what the closure has captured, too. -/
import Derived.Test.YtaddhackggbdkaaRowEv
namespace Go.Proofs.Ytaddhackggbdkaa
open Go.RowKit Go.Maps Go.Proofs.YtaddhackggbdkaaW.PrintWords Go.Proofs.YtaddhackggbdkaaW.PrintLast Go.Proofs.YtaddhackggbdkaaW.PrintMore PHistTells

set_option maxRecDepth 100000 in
set_option maxHeartbeats 1000000 in
theorem index39 (A : Option Addr) (c : Nat) (p : List S39) (w : World) (hp : Rd w A p) (hl : p.length ≤ 1000) :
    Calls Try.prog 49 #[.slice A p.length c, .func (.func 39) #[] #[]] w fun e w' => ∃ i : Int, e = .returned (.int .i64 i) ∧ Below w.heap.size w w' ∧ ((i = -1 ∧ ∀ x ∈ p, (fun x : S39 => x.f1) x = false) ∨ ∃ k : Nat, i = (k : Int) ∧ k < p.length ∧ (∀ x ∈ p.take k, (fun x : S39 => x.f1) x = false) ∧ ∀ x, p[k]? = some x → (fun x : S39 => x.f1) x = true) := by
  have HP := Lib.hid hp
  have HL := Lib.hid hl
  clear hp hl
  go_enter Try.func49, Try.ntmps49
  go_wp2_with fail
  go_loopg [8] p.length (fun g i wr => ∃ j, j ≤ p.length ∧ g + j = p.length ∧ i = .int .i64 j ∧ Hid (Below w.heap.size w wr) ∧ Hid (∀ x ∈ p.take j, (fun x : S39 => x.f1) x = false))
  case atStart => exact ⟨0, Nat.zero_le _, rfl, rfl, Lib.hid (Below.refl _ _), Lib.hid (by simp)⟩
  case round =>
    obtain ⟨j, hj, hg, rfl, HB, HN⟩ := hrel
    have HG := Lib.hid hg
    clear hg
    by_cases hlt : j < p.length
    · obtain ⟨ad, e, hadlt, c0, c1, c2, c3, c4⟩ := event_at (HP.out.below HB.out) (by have := HL.out; omega) hlt
      have HX : Hid (p[j]? = some p[j]) := Lib.hid (List.getElem?_eq_getElem hlt)
      generalize p[j] = y at *
      subst e
      go_wp2_with fail
      refine (key39 y _).mono ?_
      rintro e w1 ⟨rfl, hb1⟩
      have H1 := Lib.hid (HB.out.trans (hb1.mono HB.out.size))
      clear hb1
      cases hdel : (fun x : S39 => x.f1) y with
      | true =>
        have HD := Lib.hid hdel
        try dsimp only at hdel
        go_wp2_with fail
        go_ret
        exact ⟨_, rfl, H1.out, .inr ⟨j, rfl, hlt, HN.out, fun x hx => by rw [HX.out] at hx; injection hx with hx; rw [← hx]; exact HD.out⟩⟩
      | false =>
        have HD := Lib.hid hdel
        try dsimp only at hdel
        go_wp2_with fail
        have hpl := HL.out
        go_roundg (p.length - (j + 1))
        case rel =>
          refine ⟨j + 1, by omega, by omega, by rw [show wrap64 ((j : Int) + 1) = ((j + 1 : Nat) : Int) by unfold wrap64; omega], H1, Lib.hid (fun x hx => ?_)⟩
          rw [List.take_add_one, HX.out] at hx
          rcases List.mem_append.1 hx with h | h
          · exact HN.out x h
          · simp only [Option.toList_some, List.mem_singleton] at h
            rw [h]
            exact HD.out
        case measure => have := HG.out; omega
    · go_wp2_with fail
      go_ret
      refine ⟨_, rfl, HB.out, .inl ⟨rfl, fun x hx => ?_⟩⟩
      have hnx := HN.out x (by rw [List.take_of_length_le (by omega)]; exact hx)
      first | exact hnx | simpa using hnx
/-- What is kept. -/
def keep39 (p : List S39) : List S39 := p.filter fun x => !(fun x : S39 => x.f1) x
set_option maxRecDepth 100000 in
set_option maxHeartbeats 2000000 in
theorem delete39 (g cap : Nat) (p : List S39) (w : World) (hr : RowAt w g cap p) (hl : p.length ≤ 1000) :
    Calls Try.prog 37 #[.slice (some ⟨g, 0, none⟩) p.length cap, .func (.func 39) #[] #[]] w fun e w' => e = .returned (.slice (some ⟨g, 0, none⟩) (keep39 p).length cap) ∧ RowAt w' g cap (keep39 p) ∧ Turn w w' (fun k => k = g) := by
  have HR := Lib.hid hr
  have HL := Lib.hid hl
  clear hr hl
  go_enter Try.func37, Try.ntmps37
  go_wp2_with fail
  refine (index39 (some ⟨g, 0, none⟩) cap p w (RowAt.own HR.out (Nat.zero_le _)).shape_rd HL.out).mono ?_
  rintro e w1 ⟨i, rfl, hb1, hi⟩
  have HB1 := Lib.hid hb1
  clear hb1
  rcases hi with ⟨rfl, hno⟩ | ⟨k, rfl, hk, hpre, hat⟩
  · have HNO := Lib.hid hno
    clear hno
    go_wp2_with fail
    go_ret
    have hf : keep39 p = p := by
      unfold keep39
      rw [List.filter_eq_self]
      exact fun x hx => by simpa using HNO.out x hx
    rw [hf]
    exact ⟨rfl, HR.out.same (HB1.out.block g HR.out.lt), Turn.of_below _ HB1.out⟩
  · have HPRE := Lib.hid hpre
    have HAT := Lib.hid hat
    have hpl := HL.out
    clear hpre hat
    have hwk : wrap64 ((k : Int) + 1) = ((k + 1 : Nat) : Int) := by
      unfold wrap64
      omega
    go_wp2_with fail
    clear hpl
    go_loopg [5, 6] (p.length - (k + 1)) (fun gg a b wr => ∃ i j : Nat, ∃ M : List S39, i ≤ j ∧ j ≤ p.length ∧ gg + j = p.length ∧ a = .int .i64 i ∧ b = .int .i64 j ∧ Hid (Turn w wr (fun q => q = g)) ∧ Hid (RowAt wr g cap M ∧ M.length = p.length ∧ M.drop j = p.drop j ∧ M.take i = keep39 (p.take j)))
    case atStart =>
      refine ⟨k, k + 1, p, by omega, by omega, by omega, rfl, by first | rfl | simp, Lib.hid (Turn.of_below _ HB1.out), Lib.hid ⟨HR.out.same (HB1.out.block g HR.out.lt), rfl, rfl, ?_⟩⟩
      unfold keep39
      rw [List.take_add_one, List.getElem?_eq_getElem hk, List.filter_append, List.filter_eq_self.2 (fun x hx => by simpa using HPRE.out x hx)]
      have h1 := HAT.out _ (List.getElem?_eq_getElem hk)
      have h2 : ([p[k]] : List S39).filter (fun x => !(fun x : S39 => x.f1) x) = [] := by
        rw [List.filter_cons, if_neg (by intro hc; rw [Bool.not_eq_true'] at hc; exact absurd (hc.symm.trans h1) (by decide))]
        rfl
      rw [Option.toList_some, h2, List.append_nil]
    case round =>
      obtain ⟨i, j, M, hij, hj, hg, rfl, rfl, HT, HM⟩ := hrel
      have HG := Lib.hid hg
      clear hg hwk
      by_cases hlt : j < p.length
      · have hml := HM.out.2.1
        have HX : Hid (M[j]? = some (M[j]'(by omega))) := Lib.hid (List.getElem?_eq_getElem (by omega))
        generalize M[j]'(by omega) = y at *
        obtain ⟨c0, c1, c2, c3, c4⟩ := HM.out.1.ev HX.out
        have hcap := HM.out.1.le
        obtain ⟨W1, hW1⟩ : ∃ W1, wr.alloc (.cells #[.int .i64 y.f0, .bool y.f1, .int .i64 y.f2, .int .i64 y.f3, .int .i64 y.f4] 39) = W1 := ⟨_, rfl⟩
        have HB2 : Hid (Below wr.heap.size wr W1) := Lib.hid (by rw [← hW1]; exact (Below.refl _ _).alloc (Nat.le_refl _) _)
        have HE1 : Hid (W1.heap[wr.heap.size]? = some (.cells #[.int .i64 y.f0, .bool y.f1, .int .i64 y.f2, .int .i64 y.f3, .int .i64 y.f4] 39 (0, 0))) := Lib.hid (by rw [← hW1]; exact heap_alloc_new wr _)
        obtain ⟨v0, v1, v2, v3, v4⟩ := five HE1.out
        clear hml hcap
        go_wp2_with fail
        refine (key39 y _).mono ?_
        rintro e w2 ⟨rfl, hb2⟩
        have HB3 := Lib.hid (HB2.out.trans (hb2.mono HB2.out.size))
        obtain ⟨u0, u1, u2, u3, u4⟩ := five ((hb2.block _ (Array.getElem?_eq_some_iff.1 HE1.out).1).trans HE1.out)
        have HR2 := Lib.hid (HM.out.1.same (HB3.out.block g HM.out.1.lt))
        clear hb2 v0 v1 v2 v3 v4 hW1 c0 c1 c2 c3 c4
        have hpl := HL.out
        have hwj : wrap64 ((j : Int) + 1) = ((j + 1 : Nat) : Int) := by
          unfold wrap64
          omega
        have hwi : wrap64 ((i : Int) + 1) = ((i + 1 : Nat) : Int) := by
          unfold wrap64
          omega
        have HTJ : Hid (keep39 (p.take (j + 1)) = keep39 (p.take j) ++ if (fun x : S39 => x.f1) y = true then [] else [y]) := Lib.hid (by
          have hpy : p[j]? = some y := by
            have h1 : (M.drop j)[0]? = some y := by simpa using HX.out
            rw [HM.out.2.2.1] at h1
            simpa using h1
          unfold keep39
          rw [List.take_add_one, hpy, List.filter_append]
          congr 1
          show List.filter (fun x => !(fun x : S39 => x.f1) x) [y] = _
          cases hd : (fun x : S39 => x.f1) y with
          | true => rw [List.filter_cons, if_neg (by intro hc; rw [Bool.not_eq_true'] at hc; exact absurd (hc.symm.trans hd) (by decide)), if_pos rfl]; rfl
          | false => rw [List.filter_cons, if_pos (by rw [Bool.not_eq_true']; exact hd), if_neg (by decide)]; rfl)
        cases hdel : (fun x : S39 => x.f1) y with
        | true =>
          have HD := Lib.hid hdel
          try dsimp only at hdel
          go_wp2_with fail
          go_roundg (p.length - (j + 1) )
          case rel =>
            refine ⟨i, j + 1, M, by omega, by omega, by omega, rfl, by first | rfl | rw [hwj], Lib.hid (HT.out.trans (Turn.of_below _ HB3.out) (fun _ _ h => h)), Lib.hid ⟨HR2.out, HM.out.2.1, ?_, ?_⟩⟩
            · rw [← List.drop_drop, ← List.drop_drop, HM.out.2.2.1]
            · rw [HTJ.out, if_pos HD.out, List.append_nil]
              exact HM.out.2.2.2
          case measure => have := HG.out; omega
        | false =>
          have HD := Lib.hid hdel
          try dsimp only at hdel
          have hml := HM.out.2.1
          obtain ⟨z, hz⟩ : ∃ z, M[i]? = some z := ⟨_, List.getElem?_eq_getElem (show i < M.length by omega)⟩
          obtain ⟨c0, c1, c2, c3, c4⟩ := HR2.out.ev hz
          clear hz
          have hfz : ∀ q, w2.frozen? ⟨g, q, none⟩ = false := fun q => by
            obtain ⟨cur, h1, _⟩ := HR2.out.cells
            exact free_of h1 q
          have hcap := HM.out.1.le
          clear hml
          go_wp2_with fail
          have HP5 := Lib.hid (HR2.out.put y (show i < M.length by have := HM.out.2.1; omega))
          have HT5 := Lib.hid (put5_turn w2 ⟨g, i * 5, none⟩ y (F := fun q => q = g) rfl)
          clear c0 c1 c2 c3 c4 hfz hcap
          go_roundg (p.length - (j + 1))
          case rel =>
            have hml := HM.out.2.1
            have HTT := HT.out.trans (Turn.of_below _ HB3.out) (fun _ _ h => h)
            refine ⟨i + 1, j + 1, M.set i y, by omega, by omega, by omega, by first | rfl | rw [hwi], by first | rfl | rw [hwj], ?_, Lib.hid ⟨?_, by rw [List.length_set]; exact hml, ?_, ?_⟩⟩
            · (have h := HT5.out; unfold put5 at h; rw [show y.f1 = false from HD.out] at h; exact Lib.hid (HTT.trans h (fun _ _ h => h)))
            · (have h := HP5.out; unfold put5 at h; rw [show y.f1 = false from HD.out] at h; exact h)
            · rw [List.drop_set_of_lt (by omega), ← List.drop_drop, ← List.drop_drop, HM.out.2.2.1]
            · rw [HTJ.out, if_neg (by rw [HD.out]; decide), ← HM.out.2.2.2, List.take_add_one, List.take_set_of_le (Nat.le_refl _), List.getElem?_set_self (by omega)]
              rfl
          case measure => have := HG.out; omega
      · have hjp : j = p.length := by omega
        subst hjp
        have hml := HM.out.2.1
        have hcap : p.length ≤ cap := by have := HM.out.1.le; omega
        have hpl := HL.out
        have HK := Lib.hid HM.out.2.2.2
        rcases Nat.lt_or_ge i cap with hic | hic
        · obtain ⟨w9, hrun, hs9, ht9, hr9⟩ := run_clear 0 HM.out.1 i (cap - i) (by omega)
          have hclr : ∀ ty, (Builtin.clear_ #[22] ty #[.slice (some ⟨g, i * 5, none⟩) (p.length - i) (cap - i)]).run Try.prog wr = .ok (.tuple #[]) w9 := fun ty => by
            rw [← hml]
            exact hrun
          have H9 := Lib.hid (And.intro ht9 hr9)
          have hne : ¬ cap = i := by omega
          clear hrun ht9 hr9 hs9 hml
          go_wp2_with fail
          go_ret
          have hk := HK.out
          rw [List.take_length] at hk
          have hkl : (keep39 p).length = i := by
            rw [← hk, List.length_take]
            have := HM.out.2.1
            omega
          rw [hkl]
          refine ⟨rfl, ?_, HT.out.trans H9.out.1 (fun _ _ h => h)⟩
          have h9 := H9.out.2
          rw [hk] at h9
          exact h9
        · have hi1 : i = p.length := by omega
          have hc1 : cap = p.length := by omega
          subst hi1
          have hclr : ∀ ty c a, (Builtin.clear_ #[22] ty #[.slice (some a) 0 c]).run Try.prog wr = .ok (.tuple #[]) wr := fun ty c a => by
            simp [Builtin.clear_, run_underlying Try.underlying22]
          have hsub : p.length - p.length = 0 := Nat.sub_self _
          clear hml
          go_wp2_with fail
          go_ret
          have hk := HK.out
          rw [List.take_length, List.take_of_length_le (by have := HM.out.2.1; omega)] at hk
          rw [← hk]
          refine ⟨?_, HM.out.1, HT.out⟩
          rw [HM.out.2.1, hc1]
          rfl
end Go.Proofs.Ytaddhackggbdkaa
