/- Values, files, decimals: the document's answers come to an end. Conditions stand in each part's own head. -/
import Derived.Test.YtaddhackggbdkaaHsA
import Derived.Laws.Cover1
import Derived.Deep.CutRange
/-! Values compared, values and files looked at: the document's answers come to an end; condition: what they are handed lies in the world. -/
namespace Go.Proofs.Ytaddhackggbdkaa
open Go.RowKit
set_option maxRecDepth 100000
theorem boxed2 {w wr : World} {cs cs' : Array Value} {t t' : TypeId} (h : Below (w.heap.size + 2) ((w.alloc (.cells cs t)).alloc (.cells cs' t')) wr) :
    wr.heap[w.heap.size]? = some (.cells cs t (0, 0)) ∧ wr.heap[w.heap.size + 1]? = some (.cells cs' t' (0, 0)) ∧ Below w.heap.size w wr := by
  have h1 := heap_alloc_new (w.alloc (.cells cs t)) (.cells cs' t')
  have e1 : (w.alloc (.cells cs t)).heap.size = w.heap.size + 1 := by simp
  rw [e1] at h1
  exact ⟨(h.block _ (by omega)).trans ((Below.heap_alloc _ _ _ (by omega)).trans (heap_alloc_new w _)), (h.block _ (by omega)).trans h1,
    (((Below.refl w.heap.size w).alloc (Nat.le_refl _) _).alloc (by omega) _).trans (h.mono (by omega))⟩
theorem ValOk.zero {W : World} {n : Nat} {k : Int} {b : Bool} {m s : Int} {t : ByteArray} {A : Option Addr} {l c : Nat} (h : ValOk W (n + 1) [.int .i64 k, .bool b, .int .i64 m, .int .i64 s, .string t, .slice A l c]) (hn : n = 0) : l = 0 := by
  subst hn
  rcases Nat.eq_zero_or_pos l with e | e
  · exact e
  · obtain ⟨_, _, _, _, hP, _⟩ := h.list.2.2.2 0 e
    exact hP.elim
theorem ValOk.pos {W : World} {n : Nat} {cs : List Value} (h : ValOk W n cs) : ∃ m, n = m + 1 := by
  cases n with
  | zero => exact h.elim
  | succ n => exact ⟨n, rfl⟩
theorem cmp_any (W : World) : ∀ (n n' : Nat) (k : Int) (b : Bool) (m s : Int) (t : ByteArray) (A : Option Addr) (l c : Nat) (k' : Int) (b' : Bool) (m' s' : Int) (t' : ByteArray) (A' : Option Addr) (l' c' : Nat)
    (_ : ValOk W n [.int .i64 k, .bool b, .int .i64 m, .int .i64 s, .string t, .slice A l c]) (_ : ValOk W n' [.int .i64 k', .bool b', .int .i64 m', .int .i64 s', .string t', .slice A' l' c']) (w : World) (_ : Below W.heap.size W w),
    Calls Try.prog 64 #[.agg #[.int .i64 k, .bool b, .int .i64 m, .int .i64 s, .string t, .slice A l c], .agg #[.int .i64 k', .bool b', .int .i64 m', .int .i64 s', .string t', .slice A' l' c']] w fun e w' => RetI e ∧ Below w.heap.size w w' := by
  intro n
  induction n with
  | zero =>
    intro n' k b m s t A l c k' b' m' s' t' A' l' c' hv
    exact hv.elim
  | succ n ih =>
    intro n' k b m s t A l c k' b' m' s' t' A' l' c' hv hv' w hw
    obtain ⟨n', rfl⟩ := hv'.pos
    have HR := Lib.hid hv.list.2
    have HR' := Lib.hid hv'.list.2
    have HW := Lib.hid hw
    have HI := Lib.hid ih
    have hle := hv.list.2.le
    have HBW : Hid (Below w.heap.size w ((w.alloc (.cells #[.int .i64 k, .bool b, .int .i64 m, .int .i64 s, .string t, .slice A l c] 84)).alloc (.cells #[.int .i64 k', .bool b', .int .i64 m', .int .i64 s', .string t', .slice A' l' c'] 84))) := Lib.hid (((Below.refl w.heap.size w).alloc (Nat.le_refl _) _).alloc (by simp) _)
    clear hv hv' hw ih
    go_enter Try.func64, Try.ntmps64
    go_wp2_with fail
    all_goals first
    | (refine (order_any _ _ _).mono ?_; rintro e w2 ⟨⟨z, rfl⟩, rfl⟩; go_wp2_with fail; go_ret; exact ⟨retI _, HBW.out⟩)
    | (refine (one_any _ _).mono ?_; rintro e w2 ⟨⟨z, rfl⟩, rfl⟩; go_wp2_with fail; go_ret; exact ⟨retI _, HBW.out⟩)
    | (refine (dec_cmp _ _ _ _ _).mono ?_; rintro e w2 ⟨⟨z, rfl⟩, hb2⟩; have HB2 := Lib.hid (HBW.out.trans (hb2.mono HBW.out.size)); clear hb2; go_wp2_with fail; go_ret; exact ⟨retI _, HB2.out⟩)
    | (go_ret; exact ⟨retI _, HBW.out⟩)
    | (go_quiet ((first | (go_at_call 72; exact Calls.quiet_of_same (one_is _ _)) | (go_at_call 71; exact Calls.quiet_of_same (order_is _ _ _))))
       go_wp2_with fail
       all_goals (go_ret; exact ⟨retI _, by refine below_drewN ?_ _; go_grown⟩))
    | skip
    simp only [‹(k != k') = false›, ‹(k == 1) = false›, ‹(k == 2) = false›, ‹(k == 3) = false›]
    go_loopg [5] l (fun g i wr => ∃ j : Nat, j ≤ l ∧ g + j = l ∧ i = .int .i64 j ∧ Below (w.heap.size + 2) ((w.alloc (.cells #[.int .i64 k, .bool b, .int .i64 m, .int .i64 s, .string t, .slice A l c] 84)).alloc (.cells #[.int .i64 k', .bool b', .int .i64 m', .int .i64 s', .string t', .slice A' l' c'] 84)) wr)
    case atStart => exact ⟨0, Nat.zero_le _, rfl, rfl, by simpa using Below.refl _ _⟩
    case round =>
      obtain ⟨j, hj, hg, rfl, hb⟩ := hrel
      have HQ := Lib.hid (boxed2 hb)
      have HB := Lib.hid hb
      have c5 := cell_of HQ.out.1 5
      have d5 := cell_of HQ.out.2.1 5
      clear hb
      by_cases hlt : j < l
      · by_cases hlt' : j < l'
        · obtain ⟨ad, k1, b1, m1, s1, t1, A1, l1, c1, rfl, hv1, hc1⟩ := HR.out.val hlt
          obtain ⟨ad', k2, b2, m2, s2, t2, A2, l2, c2, rfl, hv2, hc2⟩ := HR'.out.val hlt'
          have HC1 := Lib.hid hc1
          have HC2 := Lib.hid hc2
          have HV := Lib.hid (And.intro hv1 hv2)
          have HF : Hid (∀ w', Below wr.heap.size wr w' → w'.cell? ⟨w.heap.size, 5, none⟩ = some (.slice (some ad) l c) ∧ w'.cell? ⟨w.heap.size + 1, 5, none⟩ = some (.slice (some ad') l' c') ∧ SixAt w' ad (j * 6) k1 b1 m1 s1 t1 A1 l1 c1 ∧ SixAt w' ad' (j * 6) k2 b2 m2 s2 t2 A2 l2 c2) := Lib.hid (fun w' hb' => by
            have h1 : Below w.heap.size w w' := HQ.out.2.2.trans (hb'.mono HQ.out.2.2.size)
            exact ⟨cell_below hb' (lt_of_cell c5) c5, cell_below hb' (lt_of_cell d5) d5, hc1 w' (HW.out.trans (h1.mono HW.out.size)), hc2 w' (HW.out.trans (h1.mono HW.out.size))⟩)
          clear hc1 hc2 hv1 hv2
          go_wp2_with fail
          unfold SixAt at HF
          go_region_held3 (fun w' => w'.cell? ⟨w.heap.size, 5, none⟩ = some (.slice (some ad) l c) ∧ w'.cell? ⟨w.heap.size + 1, 5, none⟩ = some (.slice (some ad') l' c') ∧ (w'.cell? (ad.add (j * 6)) = some (.int .i64 k1) ∧ w'.cell? ⟨(ad.add (j * 6)).block, (ad.add (j * 6)).off + 1, none⟩ = some (.bool b1) ∧ w'.cell? ⟨(ad.add (j * 6)).block, (ad.add (j * 6)).off + 2, none⟩ = some (.int .i64 m1) ∧ w'.cell? ⟨(ad.add (j * 6)).block, (ad.add (j * 6)).off + 3, none⟩ = some (.int .i64 s1) ∧ w'.cell? ⟨(ad.add (j * 6)).block, (ad.add (j * 6)).off + 4, none⟩ = some (.string t1) ∧ w'.cell? ⟨(ad.add (j * 6)).block, (ad.add (j * 6)).off + 5, none⟩ = some (.slice A1 l1 c1)) ∧ (w'.cell? (ad'.add (j * 6)) = some (.int .i64 k2) ∧ w'.cell? ⟨(ad'.add (j * 6)).block, (ad'.add (j * 6)).off + 1, none⟩ = some (.bool b2) ∧ w'.cell? ⟨(ad'.add (j * 6)).block, (ad'.add (j * 6)).off + 2, none⟩ = some (.int .i64 m2) ∧ w'.cell? ⟨(ad'.add (j * 6)).block, (ad'.add (j * 6)).off + 3, none⟩ = some (.int .i64 s2) ∧ w'.cell? ⟨(ad'.add (j * 6)).block, (ad'.add (j * 6)).off + 4, none⟩ = some (.string t2) ∧ w'.cell? ⟨(ad'.add (j * 6)).block, (ad'.add (j * 6)).off + 5, none⟩ = some (.slice A2 l2 c2)))
            (first | exact HF.out _ H2.out | exact HF.out _ (Below.refl _ _).drew)
            (first
            | (go_at_call 64; refine (HI.out _ _ _ _ _ _ _ _ _ _ _ _ _ _ _ _ _ HV.out.1 HV.out.2 _ (HW.out.trans ((HQ.out.2.2.mono HW.out.size).trans ((Below.refl wr.heap.size wr).drew.mono (Nat.le_trans HW.out.size HQ.out.2.2.size))))).mono ?_; rintro e w2 ⟨⟨z, rfl⟩, hb2⟩; have H2 := Lib.hid ((Below.refl wr.heap.size wr).drew.trans hb2); clear hb2))
          have HB2 := Lib.hid (HB.out.trans (H2.out.mono (by simpa using HB.out.size)))
          go_wp2_with fail
          all_goals first
          | (go_ret; exact ⟨retI _, (boxed2 HB2.out).2.2⟩)
          | (go_roundg (l - (j + 1))
             case rel => exact ⟨j + 1, by omega, by omega, by first | rfl | rw [w64 (by omega) hle], HB2.out⟩
             case measure => omega)
        · go_wp2_with fail
          all_goals (refine (order_any _ _ _).mono ?_; rintro e w2 ⟨⟨z, rfl⟩, rfl⟩; go_wp2_with fail; go_ret; exact ⟨retI _, HQ.out.2.2⟩)
      · go_wp2_with fail
        all_goals (refine (order_any _ _ _).mono ?_; rintro e w2 ⟨⟨z, rfl⟩, rfl⟩; go_wp2_with fail; go_ret; exact ⟨retI _, HQ.out.2.2⟩)
theorem equal_any (W : World) (n n' : Nat) (k : Int) (b : Bool) (m s : Int) (t : ByteArray) (A : Option Addr) (l c : Nat) (k' : Int) (b' : Bool) (m' s' : Int) (t' : ByteArray) (A' : Option Addr) (l' c' : Nat)
    (hv : ValOk W n [.int .i64 k, .bool b, .int .i64 m, .int .i64 s, .string t, .slice A l c]) (hv' : ValOk W n' [.int .i64 k', .bool b', .int .i64 m', .int .i64 s', .string t', .slice A' l' c']) (w : World) (hw : Below W.heap.size W w) :
    Calls Try.prog 54 #[.agg #[.int .i64 k, .bool b, .int .i64 m, .int .i64 s, .string t, .slice A l c], .agg #[.int .i64 k', .bool b', .int .i64 m', .int .i64 s', .string t', .slice A' l' c']] w fun e w' => RetB e ∧ Below w.heap.size w w' := by
  have HBW : Hid (Below w.heap.size w ((w.alloc (.cells #[.int .i64 k, .bool b, .int .i64 m, .int .i64 s, .string t, .slice A l c] 84)).alloc (.cells #[.int .i64 k', .bool b', .int .i64 m', .int .i64 s', .string t', .slice A' l' c'] 84))) := Lib.hid (((Below.refl w.heap.size w).alloc (Nat.le_refl _) _).alloc (by simp) _)
  have HC := Lib.hid (cmp_any W n n' k b m s t A l c k' b' m' s' t' A' l' c' hv hv' _ (hw.trans (HBW.out.mono hw.size)))
  clear hv hv' hw
  go_enter Try.func54, Try.ntmps54
  go_wp2_with fail
  refine HC.out.mono ?_
  rintro e w2 ⟨⟨z, rfl⟩, hb2⟩
  have HB2 := Lib.hid (HBW.out.trans (hb2.mono HBW.out.size))
  clear hb2
  go_wp2_with fail
  go_ret
  exact ⟨retB _, HB2.out⟩
set_option maxHeartbeats 4000000 in
theorem isn_any (W : World) : ∀ (n : Nat) (k : Int) (b : Bool) (m s : Int) (t : ByteArray) (A : Option Addr) (l c : Nat) (d : Int)
    (_ : ValOk W n [.int .i64 k, .bool b, .int .i64 m, .int .i64 s, .string t, .slice A l c]) (w : World) (_ : Below W.heap.size W w),
    Calls Try.prog 61 #[.agg #[.int .i64 k, .bool b, .int .i64 m, .int .i64 s, .string t, .slice A l c], .int .i64 d] w fun e w' => RetB e ∧ Below w.heap.size w w' := by
  intro n
  induction n with
  | zero =>
    intro k b m s t A l c d hv
    exact hv.elim
  | succ n ih =>
    intro k b m s t A l c d hv w hw
    have HR := Lib.hid hv.list.2
    have HW := Lib.hid hw
    have HI := Lib.hid ih
    have hle := hv.list.2.le
    have HT := Lib.hid hv.list.1
    have HBW : Hid (Below w.heap.size w (w.alloc (.cells #[.int .i64 k, .bool b, .int .i64 m, .int .i64 s, .string t, .slice A l c] 84))) := Lib.hid ((Below.refl w.heap.size w).alloc (Nat.le_refl _) _)
    clear hv hw ih
    rcases (by omega : k = 0 ∨ k = 1 ∨ k = 2 ∨ k = 3 ∨ k = 4 ∨ (k ≠ 0 ∧ k ≠ 1 ∧ k ≠ 2 ∧ k ≠ 3 ∧ k ≠ 4)) with rfl | rfl | rfl | rfl | rfl | ⟨h0, h1, h2, h3, h4⟩
    all_goals go_enter Try.func61, Try.ntmps61
    all_goals go_wp2_with fail
    all_goals first
    | (go_ret; exact ⟨retB _, by go_grown⟩)
    | (refine (dec_is _ _ _).mono ?_; rintro e w2 ⟨⟨z, rfl⟩, hb2⟩; have HB2 := Lib.hid (below_box ((Below.refl _ _).trans (hb2.mono (by simp)))); clear hb2; go_wp2_with fail; go_ret; exact ⟨retB _, HB2.out⟩)
    | (refine (text_any _ _ HT.out).mono ?_; rintro e w2 ⟨⟨z, rfl⟩, rfl⟩; go_wp2_with fail; go_ret; exact ⟨retB _, by go_grown⟩)
    | skip
    rename ¬b = true => q1
    rename m = 0 => q2
    rename s = 0 => q3
    rename t.toList = [] => q4
    rename d < 2 => q5
    rename d < 2 ∧ (l : Int) ≤ 8 => q6
    clear q1 q2 q3 q4 q5 q6
    go_loopg [5] l (fun g i wr => ∃ j : Nat, j ≤ l ∧ g + j = l ∧ i = .int .i64 j ∧ Below (w.heap.size + 1) (w.alloc (.cells #[.int .i64 4, .bool false, .int .i64 0, .int .i64 0, .string t, .slice A l c] 84)) wr)
    case atStart => exact ⟨0, Nat.zero_le _, rfl, rfl, by simpa using Below.refl _ _⟩
    case round =>
      obtain ⟨j, hj, hg, rfl, hb⟩ := hrel
      have c5 := cell_of (boxed hb) 5
      have HB := Lib.hid hb
      clear hb
      by_cases hlt : j < l
      · obtain ⟨ad, k', b', m', s', t', A', l', c', rfl, hv', hc⟩ := HR.out.val hlt
        obtain ⟨d0, d1, d2, d3, d4, d5⟩ := hc wr (HW.out.trans ((below_box HB.out).mono HW.out.size))
        have HC := Lib.hid (HI.out k' b' m' s' t' A' l' c' (wrap64 (d + 1)) hv' wr (HW.out.trans ((below_box HB.out).mono HW.out.size)))
        clear hc hv'
        go_wp2_with fail
        refine HC.out.mono ?_
        rintro e w2 ⟨⟨z, rfl⟩, hb2⟩
        have HB2 := Lib.hid (HB.out.trans (hb2.mono (by simpa using HB.out.size)))
        clear hb2
        go_wp2_with fail
        all_goals first
        | (go_ret; exact ⟨retB _, below_box HB2.out⟩)
        | (go_roundg (l - (j + 1))
           case rel => exact ⟨j + 1, by omega, by omega, by first | rfl | rw [w64 (by omega) hle], HB2.out⟩
           case measure => omega)
      · go_wp2_with fail
        go_ret
        exact ⟨retB _, below_box HB.out⟩
theorem is_any (W : World) (n : Nat) (k : Int) (b : Bool) (m s : Int) (t : ByteArray) (A : Option Addr) (l c : Nat)
    (hv : ValOk W n [.int .i64 k, .bool b, .int .i64 m, .int .i64 s, .string t, .slice A l c]) (w : World) (hw : Below W.heap.size W w) :
    Calls Try.prog 52 #[.agg #[.int .i64 k, .bool b, .int .i64 m, .int .i64 s, .string t, .slice A l c]] w fun e w' => RetB e ∧ Below w.heap.size w w' := by
  have HBW : Hid (Below w.heap.size w (w.alloc (.cells #[.int .i64 k, .bool b, .int .i64 m, .int .i64 s, .string t, .slice A l c] 84))) := Lib.hid ((Below.refl w.heap.size w).alloc (Nat.le_refl _) _)
  have HC := Lib.hid (isn_any W n k b m s t A l c 0 hv _ (hw.trans (HBW.out.mono hw.size)))
  clear hv hw
  go_enter Try.func52, Try.ntmps52
  go_wp2_with fail
  refine HC.out.mono ?_
  rintro e w2 ⟨⟨z, rfl⟩, hb2⟩
  have HB2 := Lib.hid (HBW.out.trans (hb2.mono HBW.out.size))
  clear hb2
  go_wp2_with fail
  go_ret
  exact ⟨retB _, HB2.out⟩
end Go.Proofs.Ytaddhackggbdkaa
/-! A file's items looked at: the document's answer comes to an end; condition: what it is handed lies in the world. -/
namespace Go.Proofs.Ytaddhackggbdkaa
open Go.RowKit
set_option maxRecDepth 100000
set_option maxHeartbeats 1000000 in
theorem files_any (W : World) (A : Option Addr) (l c : Nat) (h : Row W FileOk 3 A l c) (w : World) (hw : Below W.heap.size W w) : Calls Try.prog 44 #[.slice A l c] w fun e w' => RetB e ∧ Below w.heap.size w w' := by
  have HR := Lib.hid h
  have HW := Lib.hid hw
  have hle := h.le
  clear h hw
  go_enter Try.func44, Try.ntmps44
  go_wp2_with fail
  go_loopg [3] l (fun g i wr => ∃ j : Nat, j ≤ l ∧ g + j = l ∧ i = .int .i64 j ∧ Below w.heap.size w wr)
  case atStart => exact ⟨0, Nat.zero_le _, rfl, rfl, Below.refl _ _⟩
  case round =>
    obtain ⟨j, hj, hg, rfl, hb⟩ := hrel
    have HB := Lib.hid hb
    clear hb
    by_cases hlt : j < l
    · obtain ⟨ad, s, p, t, rfl, hs, hc⟩ := HR.out.filei hlt
      have HC := Lib.hid hc
      obtain ⟨d0, d1, d2⟩ := hc wr (HW.out.trans (HB.out.mono HW.out.size))
      have HS := Lib.hid hs
      clear hc hs
      go_wp2_with fail
      refine (name_any _ _ HS.out).mono ?_
      rintro e w2 ⟨⟨z, rfl⟩, rfl⟩
      cases z
      all_goals go_wp2_with fail
      all_goals first
      | (go_ret; exact ⟨retB _, HB.out⟩)
      | skip
      refine (word_any _ _).mono ?_
      rintro e w3 ⟨⟨z, rfl⟩, hb3⟩
      have HB3 := Lib.hid (HB.out.trans (hb3.mono HB.out.size))
      obtain ⟨e0, e1, e2⟩ := HC.out w3 (HW.out.trans (HB3.out.mono HW.out.size))
      clear hb3 d0 d1 d2
      cases z
      all_goals go_wp2_with fail
      all_goals first
      | (go_ret; exact ⟨retB _, HB3.out⟩)
      | skip
      clear e0 e1 e2
      try go_simp
      have HG := Lib.hid hg
      clear hg
      go_loopg [4] j (fun g i wr => ∃ q : Nat, q ≤ j ∧ g + q = j ∧ i = .int .i64 q ∧ Below w.heap.size w wr)
      case atStart => exact ⟨0, Nat.zero_le _, rfl, rfl, HB3.out⟩
      case round =>
        obtain ⟨q, hq, hgq, rfl, hbq⟩ := hrel
        have HBQ := Lib.hid hbq
        clear hbq
        by_cases hlq : q < j
        · obtain ⟨ad', s', p', t', e', hs', hc'⟩ := HR.out.filei (Nat.lt_trans hlq hlt)
          injection e' with e'
          subst e'
          obtain ⟨d0, d1, d2⟩ := HC.out wr (HW.out.trans (HBQ.out.mono HW.out.size))
          obtain ⟨f0, f1, f2⟩ := hc' wr (HW.out.trans (HBQ.out.mono HW.out.size))
          clear hc' hs' d1 d2 f1 f2
          go_wp2_with fail
          go_quiet (fail)
          go_wp2_with fail
          all_goals first
          | (go_ret; exact ⟨retB _, below_drewN HBQ.out _⟩)
          | (go_roundg (j - (q + 1))
             case rel => exact ⟨q + 1, by omega, by omega, by first | rfl | rw [w64 (by omega) (by omega)], below_drewN HBQ.out _⟩
             case measure => omega)
        · go_wp2_with fail
          go_roundg (l - (j + 1))
          case rel => exact ⟨j + 1, by omega, by omega, by first | rfl | rw [w64 (by omega) hle], HBQ.out⟩
          case measure => have := HG.out; omega
    · go_wp2_with fail
      all_goals (go_ret; exact ⟨retB _, HB.out⟩)
end Go.Proofs.Ytaddhackggbdkaa
/-! Letters and digits; a decimal read out of a text: the document's answers come to an end; condition: the text is short. -/
namespace Go.Proofs.Ytaddhackggbdkaa
open Go.RowKit
open Go.Proofs.YtaddhackggbdkaaW.PrintWords (results_ct)
set_option maxRecDepth 100000
def letF (c : Int) : Bool := decide (97 ≤ c) && decide (c ≤ 122)
def digF (c : Int) : Bool := decide (48 ≤ c) && decide (c ≤ 57)
theorem letter_is (c : Int) (w : World) : Calls Try.prog 77 #[.int .u8 c] w fun e w' => e = .returned (.bool (letF c)) ∧ w' = w := by
  obtain ⟨r, hr⟩ : ∃ r, letF c = r := ⟨_, rfl⟩
  rw [hr]
  unfold letF at hr
  have HR := Lib.hid hr
  clear hr
  go_enter Try.func77, Try.ntmps77
  go_wp2_with fail
  all_goals (go_ret; refine ⟨?_, rfl⟩; rw [← HR.out]; first | (simp_all; done) | (simp_all; omega))
theorem digit_is (c : Int) (w : World) : Calls Try.prog 78 #[.int .u8 c] w fun e w' => e = .returned (.bool (digF c)) ∧ w' = w := by
  obtain ⟨r, hr⟩ : ∃ r, digF c = r := ⟨_, rfl⟩
  rw [hr]
  unfold digF at hr
  have HR := Lib.hid hr
  clear hr
  go_enter Try.func78, Try.ntmps78
  go_wp2_with fail
  all_goals (go_ret; refine ⟨?_, rfl⟩; rw [← HR.out]; first | (simp_all; done) | (simp_all; omega))
theorem digits_any (s : ByteArray) (hs : s.size ≤ 200) (a : Nat) (ha : a ≤ 500) (w : World) : Calls Try.prog 99 #[.string s, .int .i64 a] w fun e w' => (∃ n : Nat, e = .returned (.int .i64 n) ∧ (a + n ≤ s.size ∨ n = 0)) ∧ w' = w := by
  go_enter Try.func99, Try.ntmps99
  go_wp2_with fail
  go_loopg [5] s.size (fun g i wr => ∃ j : Nat, g + j = s.size ∧ (a + j ≤ s.size ∨ j = 0) ∧ i = .int .i64 j ∧ wr = w)
  case atStart => exact ⟨0, rfl, .inr rfl, rfl, rfl⟩
  case round =>
    obtain ⟨j, hg, hj, rfl, rfl⟩ := hrel
    have h1 : wrap64 ((a : Int) + j) = ((a + j : Nat) : Int) := by unfold wrap64; omega
    have h2 : wrap64 ((j : Int) + 1) = ((j + 1 : Nat) : Int) := by unfold wrap64; omega
    by_cases hlt : a + j < s.size
    · have hlt' : (a : Int) + j < (s.size : Int) := by omega
      go_wp2_with fail
      all_goals first
      | (go_ret; exact ⟨⟨j, rfl, hj⟩, rfl⟩)
      | (go_roundg (s.size - (j + 1))
         case rel => exact ⟨j + 1, by omega, by omega, by first | rfl | rw [h2], rfl⟩
         case measure => omega)
    · have hlt' : ¬ (a : Int) + j < (s.size : Int) := by omega
      go_wp2_with fail
      all_goals (go_ret; exact ⟨⟨j, rfl, hj⟩, rfl⟩)
theorem half_any (a b : Int) (hb : b ≠ 0) (w : World) : Calls Try.prog 101 #[.int .i64 a, .int .i64 b] w fun e w' => RetI e ∧ Below w.heap.size w w' := by
  go_enter Try.func101, Try.ntmps101
  go_wp2_with fail
  go_quiet (fail)
  have hb1 := below_drewN (Below.refl w.heap.size w) nq
  generalize World.drewN _ _ = w3 at hb1 ⊢
  generalize wrap64 (a.tdiv b) = q
  generalize a.tmod b = r
  clear hb
  obtain ⟨x1, hx1⟩ : ∃ x, wrap64 (b - r) = x := ⟨_, rfl⟩
  obtain ⟨r2, hr2⟩ : ∃ x, wrap64 (r + b) = x := ⟨_, rfl⟩
  obtain ⟨x2, hx2⟩ : ∃ x, wrap64 (b - r2) = x := ⟨_, rfl⟩
  go_wp2_with fail
  all_goals (go_ret; exact ⟨retI _, hb1⟩)
theorem pow_ne (n : Nat) (h : n ≤ 8) : pow10 n ≠ 0 := by
  rcases (by omega : n = 0 ∨ n = 1 ∨ n = 2 ∨ n = 3 ∨ n = 4 ∨ n = 5 ∨ n = 6 ∨ n = 7 ∨ n = 8) with rfl | rfl | rfl | rfl | rfl | rfl | rfl | rfl | rfl <;> simp [pow10, wrap64]
theorem put2 {w : World} {g : Nat} {t : TypeId} {x y : Value} (h : w.heap[g]? = some (.cells #[x, y] t (0, 0))) (u v : Value) : ((w.setCell ⟨g, 0, none⟩ u).setCell ⟨g, 1, none⟩ v).heap[g]? = some (.cells #[u, v] t (0, 0)) := by
  simpa using blk_set (blk_set h 0 u) 1 v
def RetD (e : Ending) : Prop := ∃ m s n, e = .returned (.tuple #[.agg #[.int .i64 m, .int .i64 s], .int .i64 n])
theorem retD (m s n : Int) : RetD (.returned (.tuple #[.agg #[.int .i64 m, .int .i64 s], .int .i64 n])) := ⟨m, s, n, rfl⟩
set_option maxHeartbeats 1000000 in
theorem fit_any (m s : Int) (w : World) : Calls Try.prog 100 #[.int .i64 m, .int .i64 s] w fun e w' => RetD e ∧ Below w.heap.size w w' := by
  go_enter Try.func100, Try.ntmps100
  go_wp2_with fail
  all_goals first | (go_returns; exact ⟨retD _ _ _, by go_grown⟩) | skip
  all_goals
    go_loopg [6] 5 (fun g v wr => ∃ t : Int, v = .int .i64 t ∧ -1 ≤ t ∧ t ≤ 4 ∧ t ≤ s ∧ t + 1 ≤ g ∧ wr.heap[w.heap.size]? = some (.cells #[.int .i64 0, .int .i64 0] 82 (0, 0)) ∧ Below w.heap.size w wr)
    case atStart => exact ⟨_, rfl, by omega, by omega, by omega, by omega, heap_alloc_new w _, by go_grown⟩
    case round =>
      obtain ⟨t, rfl, ht0, ht4, hts, hg, hh, hb⟩ := hrel
      have HB := Lib.hid hb
      have HG := Lib.hid hg
      have c0 := cell_of hh 0
      have c1 := cell_of hh 1
      have f0 := free_of hh 0
      have f1 := free_of hh 1
      have HH := Lib.hid hh
      clear hb hh hg
      by_cases ht : 0 ≤ t
      · go_wp2_with fail
        refine (power_is _ (by omega) _).mono ?_
        rintro e w2 ⟨rfl, rfl⟩
        have HP := Lib.hid (pow_ne (s - t).toNat (by omega))
        generalize pow10 (s - t).toNat = p10 at HP ⊢
        go_wp2_with fail
        refine (half_any _ _ HP.out _).mono ?_
        rintro e w3 ⟨⟨q, rfl⟩, hb3⟩
        have HH3 := Lib.hid ((hb3.block _ (lt_of_cell c0)).trans HH.out)
        have HB3 := Lib.hid (HB.out.trans (hb3.mono HB.out.size))
        clear hb3 c0 c1 f0 f1
        go_wp2_with fail
        all_goals first
        | (go_roundg t.toNat
           case rel => exact ⟨t - 1, by first | rfl | (unfold wrap64; go_num), by omega, by omega, by omega, by omega, HH3.out, HB3.out⟩
           case measure => have := HG.out; omega)
        | skip
        rename -1000000000 ≤ q => hq1
        rename q ≤ 1000000000 => hq2
        clear hq1 hq2
        go_loopg [6, 7] 5 (fun g v x wr => ∃ t q : Int, v = .int .i64 t ∧ x = .int .i64 q ∧ 0 ≤ t ∧ t ≤ 4 ∧ t ≤ g ∧ wr.heap[w.heap.size]? = some (.cells #[.int .i64 0, .int .i64 0] 82 (0, 0)) ∧ Below w.heap.size w wr)
        case atStart => exact ⟨_, _, rfl, rfl, ht, ht4, by omega, HH3.out, HB3.out⟩
        case round =>
          obtain ⟨t, q, rfl, rfl, ht0, ht4, hg, hh, hb⟩ := hrel
          have HB := Lib.hid hb
          have HG := Lib.hid hg
          have c0 := cell_of hh 0
          have c1 := cell_of hh 1
          have f0 := free_of hh 0
          have f1 := free_of hh 1
          have HH := Lib.hid hh
          clear hb hh hg
          go_wp2_with fail
          all_goals first
          | (go_roundg (t - 1).toNat
             case rel => exact ⟨t - 1, _, rfl, rfl, by omega, by omega, by omega, HH.out, HB.out⟩
             case measure => have := HG.out; omega)
          | (refine bodyPost_ret (results_ct rfl _ _ w.heap.size 82 #[.int .i64 q, .int .i64 t] (0, 0) _ rfl (put2 HH.out _ _) Try.underlying82 rfl (by kernel_rfl)) rfl ?_
             have hb := HB.out
             exact ⟨retD _ _ _, by go_grown⟩)
      · go_wp2_with fail
        refine bodyPost_ret (results_ct rfl _ _ w.heap.size 82 #[.int .i64 0, .int .i64 0] (0, 0) _ rfl (put2 HH.out _ _) Try.underlying82 rfl (by kernel_rfl)) rfl ?_
        have hb := HB.out
        exact ⟨retD _ _ _, by go_grown⟩
set_option maxHeartbeats 2000000 in
theorem parse1_any (s : ByteArray) (hs : s.size ≤ 200) (w : World) : Calls Try.prog 97 #[.string s] w fun e w' => RetD e ∧ Below w.heap.size w w' := by
  obtain ⟨W1, hW1⟩ : ∃ W1, w.alloc (.cells #[.int .i64 0, .int .i64 0] 82) = W1 := ⟨_, rfl⟩
  have hB1 : Below w.heap.size w W1 := by rw [← hW1]; go_grown
  have hH1 : W1.heap[w.heap.size]? = some (.cells #[.int .i64 0, .int .i64 0] 82 (0, 0)) := by rw [← hW1]; exact heap_alloc_new w _
  have HB1 := Lib.hid hB1
  have HH1 := Lib.hid hH1
  have c0 := cell_of hH1 0
  have c1 := cell_of hH1 1
  have f0 := free_of hH1 0
  have f1 := free_of hH1 1
  clear hB1 hH1
  go_enter Try.func97, Try.ntmps97
  go_upto_region 2 with fail
  clear hW1
  go_cut [17] from 10 to 17 (fun s17 wx => (∃ b, s17 = .bool b) ∧ W1 = wx)
  case first =>
    go_wp2_with fail
    all_goals (go_meet; exact ⟨⟨_, rfl⟩, rfl⟩)
  case rest =>
    obtain ⟨⟨b, rfl⟩, rfl⟩ := hcut
    go_upto_if 17 with fail
    go_cut [4] from 10 to 17 (fun s4 wx => (∃ a : Nat, a ≤ 1 ∧ s4 = .int .i64 a) ∧ W1 = wx)
    case first =>
      cases b
      all_goals
        go_wp2_with fail
        go_meet
      · exact ⟨⟨0, by omega, rfl⟩, rfl⟩
      · exact ⟨⟨1, by omega, rfl⟩, rfl⟩
    case rest =>
      obtain ⟨⟨a, ha, rfl⟩, rfl⟩ := hcut
      go_wp2_with fail
      refine (digits_any s hs a (by omega) _).mono ?_
      rintro e w2 ⟨⟨n, rfl, hn⟩, rfl⟩
      go_upto_region 7 with fail
      go_cut [37] from 24 to 37 (fun s37 wx => (∃ b, s37 = .bool b) ∧ w2 = wx)
      case first =>
        go_wp2_with fail
        all_goals (go_meet; exact ⟨⟨_, rfl⟩, rfl⟩)
      case rest =>
        obtain ⟨⟨b, rfl⟩, rfl⟩ := hcut
        go_upto_if 37 with fail
        go_cut [6, 7] from 38 to 45 (fun s6 s7 wx => (∃ x y, s6 = .int .i64 x ∧ s7 = .int .i64 y) ∧ w2 = wx)
        case first =>
          cases b
          all_goals go_wp2_with fail
          · go_meet
            exact ⟨⟨_, _, rfl, rfl⟩, rfl⟩
          · refine (digits_any s hs (a + n + 1) (by omega) _).mono ?_
            rintro e w3 ⟨⟨n', rfl, hn'⟩, rfl⟩
            go_wp2_with fail
            go_meet
            exact ⟨⟨_, _, rfl, rfl⟩, rfl⟩
        case rest =>
          obtain ⟨⟨x, y, rfl, rfl⟩, rfl⟩ := hcut
          go_upto_region 10 with fail
          go_cut [5, 6, 7, 64] from 10 to 64 (fun s5 s6 s7 s64 wx => (∃ n x y : Int, s5 = .int .i64 n ∧ s6 = .int .i64 x ∧ s7 = .int .i64 y) ∧ (∃ b, s64 = .bool b) ∧ w2 = wx)
          case first =>
            go_wp2_with fail
            all_goals (go_meet; exact ⟨⟨_, _, _, rfl, rfl, rfl⟩, ⟨_, rfl⟩, rfl⟩)
          case rest =>
            obtain ⟨⟨n, x, y, rfl, rfl, rfl⟩, ⟨b, rfl⟩, rfl⟩ := hcut
            cases b
            · go_upto_region 12 with fail
              go_cut [73] from 66 to 73 (fun s73 wx => (∃ b, s73 = .bool b) ∧ w2 = wx)
              case first =>
                go_wp2_with fail
                all_goals (go_meet; exact ⟨⟨_, rfl⟩, rfl⟩)
              case rest =>
                obtain ⟨⟨b, rfl⟩, rfl⟩ := hcut
                cases b
                · go_wp2_with fail
                  go_loopg [8, 9] s.size (fun g v8 v9 wr => ∃ i : Nat, ∃ x, v8 = .int .i64 x ∧ v9 = .int .i64 i ∧ (g + i = s.size ∨ i = a) ∧ s.size ≤ g + i ∧ w2 = wr)
                  case atStart => exact ⟨a, _, rfl, rfl, .inr rfl, by omega, rfl⟩
                  case round =>
                    obtain ⟨i, x8, rfl, rfl, hgi, hge, rfl⟩ := hrel
                    by_cases hlt : i < s.size
                    · go_wp2_with fail
                      all_goals
                        go_roundg (s.size - (i + 1))
                        case rel => exact ⟨i + 1, _, rfl, by first | rfl | rw [w64 (by omega) (by omega)], .inl (by omega), by omega, rfl⟩
                        case measure => omega
                    · go_upto_if 95 with fail
                      go_cut [8] from 96 to 97 (fun s8 wx => (∃ m, s8 = .int .i64 m) ∧ w2 = wx)
                      case first =>
                        go_wp2_with fail
                        all_goals (go_meet; exact ⟨⟨_, rfl⟩, rfl⟩)
                      case rest =>
                        obtain ⟨⟨m, rfl⟩, rfl⟩ := hcut
                        go_wp2_with fail
                        refine (fit_any _ _ _).mono ?_
                        rintro e w4 ⟨⟨m4, s4, n4, rfl⟩, hb4⟩
                        have HH4 := Lib.hid ((hb4.block _ (lt_of_cell c0)).trans HH1.out)
                        have HB4 := Lib.hid (HB1.out.trans (hb4.mono HB1.out.size))
                        have d0 := cell_of HH4.out 0
                        have d1 := cell_of HH4.out 1
                        have e0 := free_of HH4.out 0
                        have e1 := free_of HH4.out 1
                        clear hb4 c0 c1 f0 f1
                        go_wp2_with fail
                        refine bodyPost_ret (results_ct rfl _ _ w.heap.size 82 #[.int .i64 m4, .int .i64 s4] (0, 0) _ rfl (put2 HH4.out _ _) Try.underlying82 rfl (by kernel_rfl)) rfl ?_
                        have hb := HB4.out
                        exact ⟨retD _ _ _, by go_grown⟩
                · go_wp2_with fail
                  refine bodyPost_ret (results_ct rfl _ _ w.heap.size 82 #[.int .i64 0, .int .i64 0] (0, 0) _ rfl (put2 HH1.out _ _) Try.underlying82 rfl (by kernel_rfl)) rfl ?_
                  have hb := HB1.out
                  exact ⟨retD _ _ _, by go_grown⟩
            · go_wp2_with fail
              refine bodyPost_ret (results_ct rfl _ _ w.heap.size 82 #[.int .i64 0, .int .i64 0] (0, 0) _ rfl (put2 HH1.out _ _) Try.underlying82 rfl (by kernel_rfl)) rfl ?_
              have hb := HB1.out
              exact ⟨retD _ _ _, by go_grown⟩
end Go.Proofs.Ytaddhackggbdkaa
