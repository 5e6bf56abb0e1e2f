/- The reader of a cell's expressions, walked. Conditions stand in each part's own head. -/
import Derived.Test.YtaddhackggbdkaaHsF
/-! The reader of a cell's tests, walked; conditions: the tokens lie in an elder world. -/
namespace Go.Proofs.Ytaddhackggbdkaa
open Go.RowKit Go.Proofs.YtaddhackggbdkaaW.PrintLast
set_option maxRecDepth 100000
set_option linter.unusedSimpArgs false
/-- What a call of the parser and a place for it left open. -/
structure Tk4 where
  b : Nat
  y : Ex
  n : Int
  p : Int
  f : Int
/-- An expression came back; the reader stands somewhere. -/
def Cx.eq (x : Cx) (w : World) (e : Ending) (w' : World) : Prop := RetE e ∧ ∃ a', x.at w' a' ∧ x.kp w w'
set_option maxHeartbeats 4000000 in
theorem expr7_any (x : Cx) (hx : x.ok) (w : World) (a : Nat) (h : x.at w a) : Calls Try.prog 89 #[.pointer (some ⟨x.g, 0, none⟩)] w fun e w' => x.eq w e w' := by
  revert w a h
  intro w a h
  have hne : w.heap.size ≠ x.g := by have := h.lt; omega
  have hge : x.w0.heap.size ≤ w.heap.size := h.old.size
  obtain ⟨W1, hW1⟩ : ∃ W1, w.alloc (.cells #[.int .i64 0, .bool false, .int .i64 0, .int .i64 0, .string ⟨#[]⟩, .bool false, .bool false, .slice none 0 0] 110) = W1 := ⟨_, rfl⟩
  have H1 : Hid (x.at W1 a ∧ x.kp w W1 ∧ W1.heap[w.heap.size]? = some (.cells #[.int .i64 0, .bool false, .int .i64 0, .int .i64 0, .string ⟨#[]⟩, .bool false, .bool false, .slice none 0 0] 110 (0, 0))) := Lib.hid (by rw [← hW1]; exact ⟨h.alloc _, (Cx.kp.refl _ _).alloc _, heap_alloc_new w _⟩)
  have hlt1 : w.heap.size < W1.heap.size := (Array.getElem?_eq_some_iff.1 H1.out.2.2).1
  clear h
  obtain ⟨en, er, po, hh, c0, c1, c2, c3, -, -, -, -⟩ := H1.out.1.cells
  clear hh
  by_cases he : er = 0
  rotate_left
  · obtain ⟨d0, d1, d2, d3, d4, d5, d6, d7, df0, df1, df2, df3, df4, df5, df6, df7⟩ := cells8 H1.out.2.2
    go_enter Try.func89, Try.ntmps89
    go_wp2_with fail
    refine bodyPost_ret (results_cell_row rfl _ _ w.heap.size 110 _ (0, 0) _ rfl (put8 H1.out.2.2 _ _ _ _ _ _ _ _) Try.underlying110 rfl (by kernel_rfl)) rfl ?_
    have hat := H1.out.1
    have hkp := H1.out.2.1
    exact ⟨⟨⟨_, _, _, _, _, _, _, _, _, _⟩, rfl⟩, a, (by repeat (with_reducible first | exact hat | refine Cx.at.other ?_ hne hge _ | refine Cx.at.alloc ?_ _ | refine Cx.at.drew ?_)), (by repeat (with_reducible first | exact hkp | refine Cx.kp.other ?_ (Nat.le_refl _) _ | refine Cx.kp.alloc ?_ _ | refine Cx.kp.drew ?_))⟩
  subst he
  go_enter Try.func89, Try.ntmps89
  go_wp2_with fail
  have HF : Hid (∀ w', Below W1.heap.size W1 w' → w'.cell? ⟨x.g, 0, none⟩ = some (.slice x.A x.l x.c) ∧ w'.cell? ⟨x.g, 1, none⟩ = some (.int .i64 a) ∧ w'.cell? ⟨x.g, 2, none⟩ = some (.int .i64 en)) := Lib.hid (fun w' hb => ⟨cell_below hb (lt_of_cell c0) c0, cell_below hb (lt_of_cell c1) c1, cell_below hb (lt_of_cell c2) c2⟩)
  have HT : Hid (∀ w', Below W1.heap.size W1 w' → Calls Try.prog 63 #[.slice x.A x.l x.c, .int .i64 a, .int .i64 en] w' fun e w2 => RetK x.l e ∧ Below w'.heap.size w' w2 ∧ Below W1.heap.size W1 w2) := Lib.hid (fun w' hb => (take4_any hx.row hx.len w' (H1.out.1.old.trans (hb.mono H1.out.1.old.size)) a H1.out.1.le en).mono fun e w2 ⟨h1, h2⟩ => ⟨h1, h2, hb.trans (h2.mono hb.size)⟩)
  refine start_ (n := 23) (S := fun w' => w'.cell? ⟨x.g, 0, none⟩ = some (.slice x.A x.l x.c) ∧ w'.cell? ⟨x.g, 1, none⟩ = some (.int .i64 a) ∧ w'.cell? ⟨x.g, 2, none⟩ = some (.int .i64 en)) (ds := []) #[false, false, false, false, false, false, false, false, false, false, false, false, false, false, false, false, false, false, false, false, false, false, false] (by kernel_rfl) rfl rfl ⟨c0, c1, c2⟩ (fun hHeld => ?_)
  refine pure_ (i := 0) (N := some 14) (v := ?_) (a' := ?_) #[true, false, false, false, false, false, false, false, false, false, false, false, false, false, false, false, false, false, false, false, false, false, false] rfl rfl (by kernel_rfl) (fun _ _ _ h => h) (Or.inl ⟨by rfl, ?_⟩) ?_ ?_
  rotate_left
  · intro w'
    go_simp
    with_reducible rfl
  rotate_left
  · simp only [Act.put, List.setIfInBounds_toArray, List.set_cons_zero, List.set_cons_succ, i64_w, i32_w]
    rfl
  refine pure_ (i := 1) (N := some 15) (v := ?_) (a' := ?_) #[true, true, false, false, false, false, false, false, false, false, false, false, false, false, false, false, false, false, false, false, false, false, false] rfl rfl (by kernel_rfl) (fun _ _ _ h => h) (Or.inl ⟨by rfl, ?_⟩) ?_ ?_
  rotate_left
  · intro w'
    go_simp
    with_reducible rfl
  rotate_left
  · simp only [Act.put, List.setIfInBounds_toArray, List.set_cons_zero, List.set_cons_succ, i64_w, i32_w]
    rfl
  refine pure_ (i := 2) (N := some 16) (v := ?_) (a' := ?_) #[true, true, true, false, false, false, false, false, false, false, false, false, false, false, false, false, false, false, false, false, false, false, false] rfl rfl (by kernel_rfl) (fun _ _ _ h => h) (Or.inl ⟨by rfl, ?_⟩) ?_ ?_
  rotate_left
  · intro w'
    go_simp
    with_reducible rfl
  rotate_left
  · simp only [Act.put, List.setIfInBounds_toArray, List.set_cons_zero, List.set_cons_succ, i64_w, i32_w]
    rfl
  refine pure_ (i := 4) (N := some 18) (v := ?_) (a' := ?_) #[true, true, true, false, true, false, false, false, false, false, false, false, false, false, false, false, false, false, false, false, false, false, false] rfl rfl (by kernel_rfl) (fun _ _ _ h => h) (Or.inl ⟨by rfl, ?_⟩) ?_ ?_
  rotate_left
  · intro w'
    go_simp
    with_reducible rfl
  rotate_left
  · simp only [Act.put, List.setIfInBounds_toArray, List.set_cons_zero, List.set_cons_succ, i64_w, i32_w]
    rfl
  refine pure_ (i := 5) (N := some 19) (v := ?_) (a' := ?_) #[true, true, true, false, true, true, false, false, false, false, false, false, false, false, false, false, false, false, false, false, false, false, false] rfl rfl (by kernel_rfl) (fun _ _ _ h => h) (Or.inl ⟨by rfl, ?_⟩) ?_ ?_
  rotate_left
  · intro w'
    go_simp
    with_reducible rfl
  rotate_left
  · simp only [Act.put, List.setIfInBounds_toArray, List.set_cons_zero, List.set_cons_succ, i64_w, i32_w]
    rfl
  refine pure_ (i := 6) (N := some 20) (v := ?_) (a' := ?_) #[true, true, true, false, true, true, true, false, false, false, false, false, false, false, false, false, false, false, false, false, false, false, false] rfl rfl (by kernel_rfl) (fun _ _ _ h => h) (Or.inl ⟨by rfl, ?_⟩) ?_ ?_
  rotate_left
  · intro w'
    go_simp
    with_reducible rfl
  rotate_left
  · simp only [Act.put, List.setIfInBounds_toArray, List.set_cons_zero, List.set_cons_succ, i64_w, i32_w]
    rfl
  refine pure_ (i := 8) (N := some 22) (v := ?_) (a' := ?_) #[true, true, true, false, true, true, true, false, true, false, false, false, false, false, false, false, false, false, false, false, false, false, false] rfl rfl (by kernel_rfl) (fun _ _ _ h => h) (Or.inl ⟨by rfl, ?_⟩) ?_ ?_
  rotate_left
  · intro w'
    go_simp
    with_reducible rfl
  rotate_left
  · simp only [Act.put, List.setIfInBounds_toArray, List.set_cons_zero, List.set_cons_succ, i64_w, i32_w]
    rfl
  refine pure_ (i := 9) (N := some 23) (v := ?_) (a' := ?_) #[true, true, true, false, true, true, true, false, true, true, false, false, false, false, false, false, false, false, false, false, false, false, false] rfl rfl (by kernel_rfl) (fun _ _ _ h => h) (Or.inl ⟨by rfl, ?_⟩) ?_ ?_
  rotate_left
  · intro w'
    go_simp
    with_reducible rfl
  rotate_left
  · simp only [Act.put, List.setIfInBounds_toArray, List.set_cons_zero, List.set_cons_succ, i64_w, i32_w]
    rfl
  refine pure_ (i := 10) (N := some 24) (v := ?_) (a' := ?_) #[true, true, true, false, true, true, true, false, true, true, true, false, false, false, false, false, false, false, false, false, false, false, false] rfl rfl (by kernel_rfl) (fun _ _ _ h => h) (Or.inl ⟨by rfl, ?_⟩) ?_ ?_
  rotate_left
  · intro w'
    go_simp
    with_reducible rfl
  rotate_left
  · simp only [Act.put, List.setIfInBounds_toArray, List.set_cons_zero, List.set_cons_succ, i64_w, i32_w]
    rfl
  refine take_ (i := 3) (N := some 17) (v := ?_) (a' := ?_) #[true, true, true, true, true, true, true, false, true, true, true, false, false, false, false, false, false, false, false, false, false, false, false] rfl rfl (by kernel_rfl) (fun _ _ _ h => h) (Or.inl ⟨by rfl, ?_⟩) hHeld ?_ ?_
  rotate_left
  · rintro w' ⟨s0, s1, s2⟩
    go_simp
    with_reducible rfl
  rotate_left
  · simp only [Act.put, List.setIfInBounds_toArray, List.set_cons_zero, List.set_cons_succ, i64_w, i32_w]
    rfl
  refine take_ (i := 7) (N := some 21) (v := ?_) (a' := ?_) #[true, true, true, true, true, true, true, true, true, true, true, false, false, false, false, false, false, false, false, false, false, false, false] rfl rfl (by kernel_rfl) (fun _ _ _ h => h) (Or.inl ⟨by rfl, ?_⟩) hHeld ?_ ?_
  rotate_left
  · rintro w' ⟨s0, s1, s2⟩
    go_simp
    with_reducible rfl
  rotate_left
  · simp only [Act.put, List.setIfInBounds_toArray, List.set_cons_zero, List.set_cons_succ, i64_w, i32_w]
    rfl
  refine take_ (i := 11) (N := some 25) (v := ?_) (a' := ?_) #[true, true, true, true, true, true, true, true, true, true, true, true, false, false, false, false, false, false, false, false, false, false, false] rfl rfl (by kernel_rfl) (fun _ _ _ h => h) (Or.inl ⟨by rfl, ?_⟩) hHeld ?_ ?_
  rotate_left
  · rintro w' ⟨s0, s1, s2⟩
    go_simp
    with_reducible rfl
  rotate_left
  · simp only [Act.put, List.setIfInBounds_toArray, List.set_cons_zero, List.set_cons_succ, i64_w, i32_w]
    rfl
  refine join_ (σ := Tk4) 4 #[true, true, true, true, true, true, true, true, true, true, true, true, true, true, true, true, true, true, true, false, false, false, false] (fun s => [(26, .tuple #[.agg #[.int .i64 s.y.k, .bool s.y.b, .int .i64 s.y.m, .int .i64 s.y.s, .string s.y.t, .bool s.y.lo, .bool s.y.hi, .slice s.y.A s.y.n s.y.c], .int .i64 s.n, .int .i64 s.p, .int .i64 s.f]), (13, .tuple #[.agg #[.int .i64 s.y.k, .bool s.y.b, .int .i64 s.y.m, .int .i64 s.y.s, .string s.y.t, .bool s.y.lo, .bool s.y.hi, .slice s.y.A s.y.n s.y.c], .int .i64 s.n, .int .i64 s.p, .int .i64 s.f]), (27, .agg #[.int .i64 s.y.k, .bool s.y.b, .int .i64 s.y.m, .int .i64 s.y.s, .string s.y.t, .bool s.y.lo, .bool s.y.hi, .slice s.y.A s.y.n s.y.c]), (28, .int .i64 s.n), (29, .int .i64 s.p), (30, .int .i64 s.f), (3, .pointer (some ⟨s.b, 0, none⟩))]) (fun s w' => Below W1.heap.size W1 w' ∧ w'.heap[s.b]? = some (.cells #[.int .i64 0, .bool false, .int .i64 0, .int .i64 0, .string ⟨#[]⟩, .bool false, .bool false, .slice none 0 0] 110 (0, 0)) ∧ W1.heap.size ≤ s.b ∧ (s.f = 0 → ∃ a' : Nat, s.n = a' ∧ a' ≤ x.l)) ?_ ?_
  rotate_left
  · intro hCont
    refine two_ (i := 12) (j := 18) (Ni := some 26) (Nj := some 3) #[true, true, true, true, true, true, true, true, true, true, true, true, true, false, false, false, false, false, false, false, false, false, false] #[true, true, true, true, true, true, true, true, true, true, true, true, false, false, false, false, false, false, true, false, false, false, false] rfl rfl rfl rfl (by kernel_rfl) (by decide) (by decide) (fun K hK => ?_) (fun K hK => ?_)
    · skip
      refine goes_ Try.func63 (by kernel_rfl) rfl #[.slice x.A x.l x.c, .int .i64 a, .int .i64 en] (by rfl) rfl rfl (by simp only [List.map_toArray, List.map_cons, List.map_nil]; rfl) ?_
      with_reducible refine (HT.out _ (by go_grown)).mono ?_
      rintro e w5 ⟨⟨y, n, p, f, rfl, hn⟩, hb5, hb51⟩
      refine ⟨_, rfl, ?_⟩
      refine hK.out _ _ ⟨(HF.out _ hb51).1, (HF.out _ hb51).2.1, (HF.out _ hb51).2.2⟩ (fun hHeld => ?_)
      clear hK K
      refine norm_ (a' := ?_) ?_ ?_
      rotate_left
      · show Act.put _ (some 26) _ = _
        simp only [Act.put, List.setIfInBounds_toArray, List.set_cons_zero, List.set_cons_succ, i64_w, i32_w]
        rfl
      refine pure_ (i := 13) (N := some 13) (v := ?_) (a' := ?_) #[true, true, true, true, true, true, true, true, true, true, true, true, true, true, false, false, false, false, false, false, false, false, false] rfl rfl (by kernel_rfl) (fun _ _ _ h => h) (Or.inl ⟨by rfl, ?_⟩) ?_ ?_
      rotate_left
      · intro w'
        go_simp
        with_reducible rfl
      rotate_left
      · simp only [Act.put, List.setIfInBounds_toArray, List.set_cons_zero, List.set_cons_succ, i64_w, i32_w]
        rfl
      refine pure_ (i := 14) (N := some 27) (v := ?_) (a' := ?_) #[true, true, true, true, true, true, true, true, true, true, true, true, true, true, true, false, false, false, false, false, false, false, false] rfl rfl (by kernel_rfl) (fun _ _ _ h => h) (Or.inl ⟨by rfl, ?_⟩) ?_ ?_
      rotate_left
      · intro w'
        go_simp
        with_reducible rfl
      rotate_left
      · simp only [Act.put, List.setIfInBounds_toArray, List.set_cons_zero, List.set_cons_succ, i64_w, i32_w]
        rfl
      refine pure_ (i := 15) (N := some 28) (v := ?_) (a' := ?_) #[true, true, true, true, true, true, true, true, true, true, true, true, true, true, true, true, false, false, false, false, false, false, false] rfl rfl (by kernel_rfl) (fun _ _ _ h => h) (Or.inl ⟨by rfl, ?_⟩) ?_ ?_
      rotate_left
      · intro w'
        go_simp
        with_reducible rfl
      rotate_left
      · simp only [Act.put, List.setIfInBounds_toArray, List.set_cons_zero, List.set_cons_succ, i64_w, i32_w]
        rfl
      refine pure_ (i := 16) (N := some 29) (v := ?_) (a' := ?_) #[true, true, true, true, true, true, true, true, true, true, true, true, true, true, true, true, true, false, false, false, false, false, false] rfl rfl (by kernel_rfl) (fun _ _ _ h => h) (Or.inl ⟨by rfl, ?_⟩) ?_ ?_
      rotate_left
      · intro w'
        go_simp
        with_reducible rfl
      rotate_left
      · simp only [Act.put, List.setIfInBounds_toArray, List.set_cons_zero, List.set_cons_succ, i64_w, i32_w]
        rfl
      refine pure_ (i := 17) (N := some 30) (v := ?_) (a' := ?_) #[true, true, true, true, true, true, true, true, true, true, true, true, true, true, true, true, true, true, false, false, false, false, false] rfl rfl (by kernel_rfl) (fun _ _ _ h => h) (Or.inl ⟨by rfl, ?_⟩) ?_ ?_
      rotate_left
      · intro w'
        go_simp
        with_reducible rfl
      rotate_left
      · simp only [Act.put, List.setIfInBounds_toArray, List.set_cons_zero, List.set_cons_succ, i64_w, i32_w]
        rfl
      refine one_ (i := 18) (N := some 3) #[true, true, true, true, true, true, true, true, true, true, true, true, true, true, true, true, true, true, true, false, false, false, false] rfl rfl (by kernel_rfl) (by decide) (fun K hK => ?_)
      refine value_ (w1 := ?_) (v := ?_) (by rfl) rfl ?_ ?_
      rotate_left 2
      · go_simp
        constructor
        · rfl
        · rfl
      refine hK.out _ _ ⟨(HF.out _ (by have := hb51.size; go_grown)).1, (HF.out _ (by have := hb51.size; go_grown)).2.1, (HF.out _ (by have := hb51.size; go_grown)).2.2⟩ (fun hHeld => ?_)
      clear hK K
      refine norm_ (a' := ?_) ?_ ?_
      rotate_left
      · show Act.put _ (some 3) _ = _
        simp only [Act.put, List.setIfInBounds_toArray, List.set_cons_zero, List.set_cons_succ, i64_w, i32_w]
        rfl
      exact norm_ (by simp only [putAll, Act.put, List.setIfInBounds_toArray, List.set_cons_zero, List.set_cons_succ]) (hCont ⟨w5.heap.size, y, n, p, f⟩ _ ⟨by have := hb51.size; go_grown, heap_alloc_new w5 _, hb51.size, hn⟩)
    · skip
      refine value_ (w1 := ?_) (v := ?_) (by rfl) rfl ?_ ?_
      rotate_left 2
      · go_simp
        constructor
        · rfl
        · rfl
      refine hK.out _ _ ⟨(HF.out _ (by go_grown)).1, (HF.out _ (by go_grown)).2.1, (HF.out _ (by go_grown)).2.2⟩ (fun hHeld => ?_)
      clear hK K
      refine norm_ (a' := ?_) ?_ ?_
      rotate_left
      · show Act.put _ (some 3) _ = _
        simp only [Act.put, List.setIfInBounds_toArray, List.set_cons_zero, List.set_cons_succ, i64_w, i32_w]
        rfl
      refine one_ (i := 12) (N := some 26) #[true, true, true, true, true, true, true, true, true, true, true, true, true, false, false, false, false, false, true, false, false, false, false] rfl rfl (by kernel_rfl) (by decide) (fun K hK => ?_)
      refine goes_ Try.func63 (by kernel_rfl) rfl #[.slice x.A x.l x.c, .int .i64 a, .int .i64 en] (by rfl) rfl rfl (by simp only [List.map_toArray, List.map_cons, List.map_nil]; rfl) ?_
      with_reducible refine (HT.out _ (by go_grown)).mono ?_
      rintro e w5 ⟨⟨y, n, p, f, rfl, hn⟩, hb5, hb51⟩
      refine ⟨_, rfl, ?_⟩
      refine hK.out _ _ ⟨(HF.out _ hb51).1, (HF.out _ hb51).2.1, (HF.out _ hb51).2.2⟩ (fun hHeld => ?_)
      clear hK K
      refine norm_ (a' := ?_) ?_ ?_
      rotate_left
      · show Act.put _ (some 26) _ = _
        simp only [Act.put, List.setIfInBounds_toArray, List.set_cons_zero, List.set_cons_succ, i64_w, i32_w]
        rfl
      refine pure_ (i := 13) (N := some 13) (v := ?_) (a' := ?_) #[true, true, true, true, true, true, true, true, true, true, true, true, true, true, false, false, false, false, true, false, false, false, false] rfl rfl (by kernel_rfl) (fun _ _ _ h => h) (Or.inl ⟨by rfl, ?_⟩) ?_ ?_
      rotate_left
      · intro w'
        go_simp
        with_reducible rfl
      rotate_left
      · simp only [Act.put, List.setIfInBounds_toArray, List.set_cons_zero, List.set_cons_succ, i64_w, i32_w]
        rfl
      refine pure_ (i := 14) (N := some 27) (v := ?_) (a' := ?_) #[true, true, true, true, true, true, true, true, true, true, true, true, true, true, true, false, false, false, true, false, false, false, false] rfl rfl (by kernel_rfl) (fun _ _ _ h => h) (Or.inl ⟨by rfl, ?_⟩) ?_ ?_
      rotate_left
      · intro w'
        go_simp
        with_reducible rfl
      rotate_left
      · simp only [Act.put, List.setIfInBounds_toArray, List.set_cons_zero, List.set_cons_succ, i64_w, i32_w]
        rfl
      refine pure_ (i := 15) (N := some 28) (v := ?_) (a' := ?_) #[true, true, true, true, true, true, true, true, true, true, true, true, true, true, true, true, false, false, true, false, false, false, false] rfl rfl (by kernel_rfl) (fun _ _ _ h => h) (Or.inl ⟨by rfl, ?_⟩) ?_ ?_
      rotate_left
      · intro w'
        go_simp
        with_reducible rfl
      rotate_left
      · simp only [Act.put, List.setIfInBounds_toArray, List.set_cons_zero, List.set_cons_succ, i64_w, i32_w]
        rfl
      refine pure_ (i := 16) (N := some 29) (v := ?_) (a' := ?_) #[true, true, true, true, true, true, true, true, true, true, true, true, true, true, true, true, true, false, true, false, false, false, false] rfl rfl (by kernel_rfl) (fun _ _ _ h => h) (Or.inl ⟨by rfl, ?_⟩) ?_ ?_
      rotate_left
      · intro w'
        go_simp
        with_reducible rfl
      rotate_left
      · simp only [Act.put, List.setIfInBounds_toArray, List.set_cons_zero, List.set_cons_succ, i64_w, i32_w]
        rfl
      refine pure_ (i := 17) (N := some 30) (v := ?_) (a' := ?_) #[true, true, true, true, true, true, true, true, true, true, true, true, true, true, true, true, true, true, true, false, false, false, false] rfl rfl (by kernel_rfl) (fun _ _ _ h => h) (Or.inl ⟨by rfl, ?_⟩) ?_ ?_
      rotate_left
      · intro w'
        go_simp
        with_reducible rfl
      rotate_left
      · simp only [Act.put, List.setIfInBounds_toArray, List.set_cons_zero, List.set_cons_succ, i64_w, i32_w]
        rfl
      exact norm_ (by simp only [putAll, Act.put, List.setIfInBounds_toArray, List.set_cons_zero, List.set_cons_succ]) (hCont ⟨W1.heap.size, y, n, p, f⟩ _ ⟨hb51, (hb5.block W1.heap.size (by simp)).trans (heap_alloc_new W1 _), Nat.le_refl _, hn⟩)
  rintro ⟨b, y, n, p, f⟩ w3 h3
  have H3 := Lib.hid h3
  clear h3
  have hHeld : w3.cell? ⟨x.g, 0, none⟩ = some (.slice x.A x.l x.c) ∧ w3.cell? ⟨x.g, 1, none⟩ = some (.int .i64 a) ∧ w3.cell? ⟨x.g, 2, none⟩ = some (.int .i64 en) := HF.out _ H3.out.1
  obtain ⟨z0, z1, z2, z3, z4, z5, z6, z7, zf0, zf1, zf2, zf3, zf4, zf5, zf6, zf7⟩ := cells8 H3.out.2.1
  refine norm_ (a' := ?_) ?_ ?_
  rotate_left
  · simp only [putAll, Act.put, List.setIfInBounds_toArray, List.set_cons_zero, List.set_cons_succ]
    rfl
  refine one_ (i := 19) (N := none) #[true, true, true, true, true, true, true, true, true, true, true, true, true, true, true, true, true, true, true, true, false, false, false] rfl rfl (by kernel_rfl) (by decide) (fun K hK => ?_)
  refine skip_ (w1 := ?_) (by rfl) rfl ?_ ?_
  rotate_left
  · go_simp
    rfl
  generalize hw9 : World.setCell _ _ _ = w9
  have H9 : Hid (Below W1.heap.size W1 w9 ∧ w9.heap[b]? = some (.cells #[.int .i64 y.k, .bool y.b, .int .i64 y.m, .int .i64 y.s, .string y.t, .bool y.lo, .bool y.hi, .slice y.A y.n y.c] 110 (0, 0))) := Lib.hid (by rw [← hw9]; exact ⟨below_far8 (W := w3) H3.out.1 H3.out.2.2.1 _ _ _ _ _ _ _ _, put8 (w := w3) H3.out.2.1 _ _ _ _ _ _ _ _⟩)
  clear hw9
  refine hK.out _ _ ⟨(HF.out _ H9.out.1).1, (HF.out _ H9.out.1).2.1, (HF.out _ H9.out.1).2.2⟩ (fun hHeld => ?_)
  clear hK K
  refine pure_ (i := 20) (N := some 4) (v := ?_) (a' := ?_) #[true, true, true, true, true, true, true, true, true, true, true, true, true, true, true, true, true, true, true, true, true, false, false] rfl rfl (by kernel_rfl) (fun _ _ _ h => h) (Or.inl ⟨by rfl, ?_⟩) ?_ ?_
  rotate_left
  · intro w'
    go_simp
    with_reducible rfl
  rotate_left
  · simp only [Act.put, List.setIfInBounds_toArray, List.set_cons_zero, List.set_cons_succ, i64_w, i32_w]
    rfl
  refine pure_ (i := 21) (N := some 5) (v := ?_) (a' := ?_) #[true, true, true, true, true, true, true, true, true, true, true, true, true, true, true, true, true, true, true, true, true, true, false] rfl rfl (by kernel_rfl) (fun _ _ _ h => h) (Or.inl ⟨by rfl, ?_⟩) ?_ ?_
  rotate_left
  · intro w'
    go_simp
    with_reducible rfl
  rotate_left
  · simp only [Act.put, List.setIfInBounds_toArray, List.set_cons_zero, List.set_cons_succ, i64_w, i32_w]
    rfl
  refine pure_ (i := 22) (N := some 6) (v := ?_) (a' := ?_) #[true, true, true, true, true, true, true, true, true, true, true, true, true, true, true, true, true, true, true, true, true, true, true] rfl rfl (by kernel_rfl) (fun _ _ _ h => h) (Or.inl ⟨by rfl, ?_⟩) ?_ ?_
  rotate_left
  · intro w'
    go_simp
    with_reducible rfl
  rotate_left
  · simp only [Act.put, List.setIfInBounds_toArray, List.set_cons_zero, List.set_cons_succ, i64_w, i32_w]
    rfl
  refine done_ (by kernel_rfl) ?_

  have H10 : Hid (x.at w9 a ∧ x.kp w w9 ∧ w9.heap[w.heap.size]? = some (.cells #[.int .i64 0, .bool false, .int .i64 0, .int .i64 0, .string ⟨#[]⟩, .bool false, .bool false, .slice none 0 0] 110 (0, 0)) ∧ w9.heap[b]? = some (.cells #[.int .i64 y.k, .bool y.b, .int .i64 y.m, .int .i64 y.s, .string y.t, .bool y.lo, .bool y.hi, .slice y.A y.n y.c] 110 (0, 0)) ∧ b ≠ x.g ∧ b ≠ w.heap.size ∧ (f = 0 → ∃ a' : Nat, n = a' ∧ a' ≤ x.l)) := Lib.hid (by
    have hb := H9.out.1
    have h3 : W1.heap.size ≤ b := H3.out.2.2.1
    have hl := H1.out.1.lt
    have hl2 := blk_in H1.out.2.2
    exact ⟨H1.out.1.below hb, H1.out.2.1.below hb, (hb.block _ hl2).trans H1.out.2.2, H9.out.2, by omega, by omega, H3.out.2.2.2⟩)
  have hbg := H10.out.2.2.2.2.1
  have hbr := H10.out.2.2.2.2.2.1
  clear H9 H3 HF HT c0 c1 c2
  generalize w9 = w10 at H10 ⊢
  by_cases hf : f = 0
  rotate_left
  · skip
    obtain ⟨en11, er11, po11, hh11, -, g11, -, i11, j11, gf11, if11, jf11⟩ := H10.out.1.cells
    clear hh11
    go_upto_region 6 with fail
    clear g11 i11 j11 gf11 if11 jf11
    have H11 : Hid (x.at ((w10.setCell ⟨x.g, 3, none⟩ (.int .i64 f)).setCell ⟨x.g, 4, none⟩ (.int .i64 p)) a ∧ x.kp w ((w10.setCell ⟨x.g, 3, none⟩ (.int .i64 f)).setCell ⟨x.g, 4, none⟩ (.int .i64 p)) ∧ ((w10.setCell ⟨x.g, 3, none⟩ (.int .i64 f)).setCell ⟨x.g, 4, none⟩ (.int .i64 p)).heap[w.heap.size]? = some (.cells #[.int .i64 0, .bool false, .int .i64 0, .int .i64 0, .string ⟨#[]⟩, .bool false, .bool false, .slice none 0 0] 110 (0, 0)) ∧ ((w10.setCell ⟨x.g, 3, none⟩ (.int .i64 f)).setCell ⟨x.g, 4, none⟩ (.int .i64 p)).heap[b]? = some (.cells #[.int .i64 y.k, .bool y.b, .int .i64 y.m, .int .i64 y.s, .string y.t, .bool y.lo, .bool y.hi, .slice y.A y.n y.c] 110 (0, 0)) ∧ True) := Lib.hid ⟨(H10.out.1.set3 hx _).set4 hx _, (H10.out.2.1.set _ _).set _ _, ((set_other _ _ _ _ (by exact hne)).trans (set_other _ _ _ _ (by exact hne))).trans H10.out.2.2.1, ((set_other _ _ _ _ (by exact hbg)).trans (set_other _ _ _ _ (by exact hbg))).trans H10.out.2.2.2.1, trivial⟩
    generalize (w10.setCell ⟨x.g, 3, none⟩ (.int .i64 f)).setCell ⟨x.g, 4, none⟩ (.int .i64 p) = w11n at H11 ⊢
    have hhc := H11.out.2.2.1
    obtain ⟨c0, c1, c2, c3, c4, c5, c6, c7, cf0, cf1, cf2, cf3, cf4, cf5, cf6, cf7⟩ := cells8 hhc
    clear hhc
    have hhv := H11.out.2.2.2.1
    obtain ⟨v0, v1, v2, v3, v4, v5, v6, v7, vf0, vf1, vf2, vf3, vf4, vf5, vf6, vf7⟩ := cells8 hhv
    clear hhv
    go_wp2_with fail
    refine bodyPost_ret (results_cell_row rfl _ _ w.heap.size 110 _ (0, 0) _ rfl (put8 H11.out.2.2.1 _ _ _ _ _ _ _ _) Try.underlying110 rfl (by kernel_rfl)) rfl ?_
    have hat := H11.out.1
    have hkp := H11.out.2.1
    exact ⟨⟨⟨_, _, _, _, _, _, _, _, _, _⟩, rfl⟩, a, (by repeat (with_reducible first | exact hat | refine Cx.at.other ?_ hne hge _ | refine Cx.at.alloc ?_ _ | refine Cx.at.drew ?_)), (by repeat (with_reducible first | exact hkp | refine Cx.kp.other ?_ (Nat.le_refl _) _ | refine Cx.kp.alloc ?_ _ | refine Cx.kp.drew ?_))⟩
  obtain ⟨a3, ea3, ha3⟩ := H10.out.2.2.2.2.2.2 hf
  subst ea3
  subst hf
  obtain ⟨en12, er12, po12, hh12, -, g12, -, i12, j12, gf12, if12, jf12⟩ := H10.out.1.cells
  clear hh12
  go_upto_region 8 with fail
  clear g12 i12 j12 gf12 if12 jf12
  have H12 : Hid (x.at (w10.setCell ⟨x.g, 1, none⟩ (.int .i64 (a3 : Int))) a3 ∧ x.kp w (w10.setCell ⟨x.g, 1, none⟩ (.int .i64 (a3 : Int))) ∧ (w10.setCell ⟨x.g, 1, none⟩ (.int .i64 (a3 : Int))).heap[w.heap.size]? = some (.cells #[.int .i64 0, .bool false, .int .i64 0, .int .i64 0, .string ⟨#[]⟩, .bool false, .bool false, .slice none 0 0] 110 (0, 0)) ∧ (w10.setCell ⟨x.g, 1, none⟩ (.int .i64 (a3 : Int))).heap[b]? = some (.cells #[.int .i64 y.k, .bool y.b, .int .i64 y.m, .int .i64 y.s, .string y.t, .bool y.lo, .bool y.hi, .slice y.A y.n y.c] 110 (0, 0)) ∧ True) := Lib.hid ⟨H10.out.1.set1 hx a3 ha3, H10.out.2.1.set _ _, (set_other _ _ _ _ (by exact hne)).trans H10.out.2.2.1, (set_other _ _ _ _ (by exact hbg)).trans H10.out.2.2.2.1, trivial⟩
  generalize w10.setCell ⟨x.g, 1, none⟩ (.int .i64 (a3 : Int)) = w12n at H12 ⊢
  have hhc := H12.out.2.2.1
  obtain ⟨c0, c1, c2, c3, c4, c5, c6, c7, cf0, cf1, cf2, cf3, cf4, cf5, cf6, cf7⟩ := cells8 hhc
  clear hhc
  have hhv := H12.out.2.2.2.1
  obtain ⟨v0, v1, v2, v3, v4, v5, v6, v7, vf0, vf1, vf2, vf3, vf4, vf5, vf6, vf7⟩ := cells8 hhv
  clear hhv
  go_wp2_with fail
  refine bodyPost_ret (results_cell_row rfl _ _ w.heap.size 110 _ (0, 0) _ rfl (put8 H12.out.2.2.1 _ _ _ _ _ _ _ _) Try.underlying110 rfl (by kernel_rfl)) rfl ?_
  have hat := H12.out.1
  have hkp := H12.out.2.1
  exact ⟨⟨⟨_, _, _, _, _, _, _, _, _, _⟩, rfl⟩, a3, (by repeat (with_reducible first | exact hat | refine Cx.at.other ?_ hne hge _ | refine Cx.at.alloc ?_ _ | refine Cx.at.drew ?_)), (by repeat (with_reducible first | exact hkp | refine Cx.kp.other ?_ (Nat.le_refl _) _ | refine Cx.kp.alloc ?_ _ | refine Cx.kp.drew ?_))⟩
set_option maxHeartbeats 4000000 in
theorem ranged_any (x : Cx) (hx : x.ok) (w : World) (a : Nat) (h : x.at w a) : Calls Try.prog 90 #[.pointer (some ⟨x.g, 0, none⟩)] w fun e w' => RetB e ∧ Below w.heap.size w w' := by
  have HX := Lib.hid h
  have hlen := hx.len
  obtain ⟨en, er, po, hh, c0, c1, c2, c3, -, -, -, -⟩ := h.cells
  clear hh h
  by_cases he : er = 0
  rotate_left
  · have he1 : (er == 0) = false := by simpa using he
    have he2 : (er != 0) = true := by simpa using he
    go_enter Try.func90, Try.ntmps90
    go_wp2_with fail
    go_quiet (fail)
    have HB4 : Hid (Below w.heap.size w (w.drewN nq)) := Lib.hid (below_drewN (Below.refl _ _) nq)
    generalize w.drewN nq = w4 at HB4 ⊢
    go_wp2_with fail
    go_ret
    exact ⟨retB _, HB4.out⟩
  subst he
  by_cases hl : a < x.l
  rotate_left
  · have hl2 : x.l ≤ a := by omega
    have hl3 : (x.l : Int) ≤ (a : Int) := by omega
    go_enter Try.func90, Try.ntmps90
    go_wp2_with fail
    go_quiet (fail)
    have HB4 : Hid (Below w.heap.size w (w.drewN nq)) := Lib.hid (below_drewN (Below.refl _ _) nq)
    generalize w.drewN nq = w4 at HB4 ⊢
    go_wp2_with fail
    go_ret
    exact ⟨retB _, HB4.out⟩
  have hlx : ¬ x.l ≤ a := by omega
  have hly : ¬ (x.l : Int) ≤ (a : Int) := by omega
  obtain ⟨ad, k, t, ps, e, ht, d0, d1, d2⟩ := HX.out.tok hx hl
  rw [e] at c0
  clear d2
  by_cases hk : k = 4
  rotate_left
  · have hk1 : (k == 4) = false := by simpa using hk
    have hk2 : (k != 4) = true := by simpa using hk
    go_enter Try.func90, Try.ntmps90
    go_wp2_with fail
    go_quiet (fail)
    have HB4 : Hid (Below w.heap.size w (w.drewN nq)) := Lib.hid (below_drewN (Below.refl _ _) nq)
    generalize w.drewN nq = w4 at HB4 ⊢
    go_wp2_with fail
    go_ret
    exact ⟨retB _, HB4.out⟩
  subst hk
  by_cases h1 : t.toList = [91]
  · have hq1 : (t.toList == [91]) = true := by simpa using h1
    have hq2 : (t.toList != [91]) = false := by simpa using h1
    go_enter Try.func90, Try.ntmps90
    go_wp2_with fail
    go_quiet (fail)
    have H1 : Hid (x.at (w.drewN nq) a ∧ Below w.heap.size w (w.drewN nq)) := Lib.hid ⟨HX.out.below (below_drewN (Below.refl _ _) nq), below_drewN (Below.refl _ _) nq⟩
    rw [← e] at c0
    replace c0 : (w.drewN nq).cell? _ = _ := c0
    replace c1 : (w.drewN nq).cell? _ = _ := c1
    replace c2 : (w.drewN nq).cell? _ = _ := c2
    generalize w.drewN nq = W1 at H1 c0 c1 c2 ⊢
    clear d0 d1 c3 e ht
    have HF : Hid (∀ w', Below W1.heap.size W1 w' → w'.cell? ⟨x.g, 0, none⟩ = some (.slice x.A x.l x.c) ∧ w'.cell? ⟨x.g, 1, none⟩ = some (.int .i64 a) ∧ w'.cell? ⟨x.g, 2, none⟩ = some (.int .i64 en)) := Lib.hid (fun w' hb => ⟨cell_below hb (lt_of_cell c0) c0, cell_below hb (lt_of_cell c1) c1, cell_below hb (lt_of_cell c2) c2⟩)
    have HT : Hid (∀ w', Below W1.heap.size W1 w' → Calls Try.prog 63 #[.slice x.A x.l x.c, .int .i64 (wrap64 ((a : Int) + 1)), .int .i64 en] w' fun e w2 => RetK x.l e ∧ Below w'.heap.size w' w2 ∧ Below W1.heap.size W1 w2) := Lib.hid (fun w' hb => by rw [w64 hl (by omega)]; exact (take4_any hx.row hx.len w' (H1.out.1.old.trans (hb.mono H1.out.1.old.size)) (a + 1) (by omega) en).mono fun e w2 ⟨h1, h2⟩ => ⟨h1, h2, hb.trans (h2.mono hb.size)⟩)
    go_wp2_with fail
    refine start_ (n := 24) (S := fun w' => w'.cell? ⟨x.g, 0, none⟩ = some (.slice x.A x.l x.c) ∧ w'.cell? ⟨x.g, 1, none⟩ = some (.int .i64 a) ∧ w'.cell? ⟨x.g, 2, none⟩ = some (.int .i64 en)) (ds := []) #[false, false, false, false, false, false, false, false, false, false, false, false, false, false, false, false, false, false, false, false, false, false, false, false] (by kernel_rfl) rfl rfl ⟨c0, c1, c2⟩ (fun hHeld => ?_)
    refine pure_ (i := 0) (N := some 67) (v := ?_) (a' := ?_) #[true, false, false, false, false, false, false, false, false, false, false, false, false, false, false, false, false, false, false, false, false, false, false, false] rfl rfl (by kernel_rfl) (fun _ _ _ h => h) (Or.inl ⟨by rfl, ?_⟩) ?_ ?_
    rotate_left
    · intro w'
      go_simp
      with_reducible rfl
    rotate_left
    · simp only [Act.put, List.setIfInBounds_toArray, List.set_cons_zero, List.set_cons_succ, i64_w, i32_w]
      rfl
    refine pure_ (i := 1) (N := some 68) (v := ?_) (a' := ?_) #[true, true, false, false, false, false, false, false, false, false, false, false, false, false, false, false, false, false, false, false, false, false, false, false] rfl rfl (by kernel_rfl) (fun _ _ _ h => h) (Or.inl ⟨by rfl, ?_⟩) ?_ ?_
    rotate_left
    · intro w'
      go_simp
      with_reducible rfl
    rotate_left
    · simp only [Act.put, List.setIfInBounds_toArray, List.set_cons_zero, List.set_cons_succ, i64_w, i32_w]
      rfl
    refine pure_ (i := 2) (N := some 69) (v := ?_) (a' := ?_) #[true, true, true, false, false, false, false, false, false, false, false, false, false, false, false, false, false, false, false, false, false, false, false, false] rfl rfl (by kernel_rfl) (fun _ _ _ h => h) (Or.inl ⟨by rfl, ?_⟩) ?_ ?_
    rotate_left
    · intro w'
      go_simp
      with_reducible rfl
    rotate_left
    · simp only [Act.put, List.setIfInBounds_toArray, List.set_cons_zero, List.set_cons_succ, i64_w, i32_w]
      rfl
    refine pure_ (i := 4) (N := some 71) (v := ?_) (a' := ?_) #[true, true, true, false, true, false, false, false, false, false, false, false, false, false, false, false, false, false, false, false, false, false, false, false] rfl rfl (by kernel_rfl) (fun _ _ _ h => h) (Or.inl ⟨by rfl, ?_⟩) ?_ ?_
    rotate_left
    · intro w'
      go_simp
      with_reducible rfl
    rotate_left
    · simp only [Act.put, List.setIfInBounds_toArray, List.set_cons_zero, List.set_cons_succ, i64_w, i32_w]
      rfl
    refine pure_ (i := 5) (N := some 72) (v := ?_) (a' := ?_) #[true, true, true, false, true, true, false, false, false, false, false, false, false, false, false, false, false, false, false, false, false, false, false, false] rfl rfl (by kernel_rfl) (fun _ _ _ h => h) (Or.inl ⟨by rfl, ?_⟩) ?_ ?_
    rotate_left
    · intro w'
      go_simp
      with_reducible rfl
    rotate_left
    · simp only [Act.put, List.setIfInBounds_toArray, List.set_cons_zero, List.set_cons_succ, i64_w, i32_w]
      rfl
    refine pure_ (i := 6) (N := some 73) (v := ?_) (a' := ?_) #[true, true, true, false, true, true, true, false, false, false, false, false, false, false, false, false, false, false, false, false, false, false, false, false] rfl rfl (by kernel_rfl) (fun _ _ _ h => h) (Or.inl ⟨by rfl, ?_⟩) ?_ ?_
    rotate_left
    · intro w'
      go_simp
      with_reducible rfl
    rotate_left
    · simp only [Act.put, List.setIfInBounds_toArray, List.set_cons_zero, List.set_cons_succ, i64_w, i32_w]
      rfl
    refine pure_ (i := 9) (N := some 76) (v := ?_) (a' := ?_) #[true, true, true, false, true, true, true, false, false, true, false, false, false, false, false, false, false, false, false, false, false, false, false, false] rfl rfl (by kernel_rfl) (fun _ _ _ h => h) (Or.inl ⟨by rfl, ?_⟩) ?_ ?_
    rotate_left
    · intro w'
      go_simp
      with_reducible rfl
    rotate_left
    · simp only [Act.put, List.setIfInBounds_toArray, List.set_cons_zero, List.set_cons_succ, i64_w, i32_w]
      rfl
    refine pure_ (i := 10) (N := some 77) (v := ?_) (a' := ?_) #[true, true, true, false, true, true, true, false, false, true, true, false, false, false, false, false, false, false, false, false, false, false, false, false] rfl rfl (by kernel_rfl) (fun _ _ _ h => h) (Or.inl ⟨by rfl, ?_⟩) ?_ ?_
    rotate_left
    · intro w'
      go_simp
      with_reducible rfl
    rotate_left
    · simp only [Act.put, List.setIfInBounds_toArray, List.set_cons_zero, List.set_cons_succ, i64_w, i32_w]
      rfl
    refine pure_ (i := 11) (N := some 78) (v := ?_) (a' := ?_) #[true, true, true, false, true, true, true, false, false, true, true, true, false, false, false, false, false, false, false, false, false, false, false, false] rfl rfl (by kernel_rfl) (fun _ _ _ h => h) (Or.inl ⟨by rfl, ?_⟩) ?_ ?_
    rotate_left
    · intro w'
      go_simp
      with_reducible rfl
    rotate_left
    · simp only [Act.put, List.setIfInBounds_toArray, List.set_cons_zero, List.set_cons_succ, i64_w, i32_w]
      rfl
    refine take_ (i := 3) (N := some 70) (v := ?_) (a' := ?_) #[true, true, true, true, true, true, true, false, false, true, true, true, false, false, false, false, false, false, false, false, false, false, false, false] rfl rfl (by kernel_rfl) (fun _ _ _ h => h) (Or.inl ⟨by rfl, ?_⟩) hHeld ?_ ?_
    rotate_left
    · rintro w' ⟨s0, s1, s2⟩
      go_simp
      with_reducible rfl
    rotate_left
    · simp only [Act.put, List.setIfInBounds_toArray, List.set_cons_zero, List.set_cons_succ, i64_w, i32_w]
      rfl
    refine take_ (i := 7) (N := some 74) (v := ?_) (a' := ?_) #[true, true, true, true, true, true, true, true, false, true, true, true, false, false, false, false, false, false, false, false, false, false, false, false] rfl rfl (by kernel_rfl) (fun _ _ _ h => h) (Or.inl ⟨by rfl, ?_⟩) hHeld ?_ ?_
    rotate_left
    · rintro w' ⟨s0, s1, s2⟩
      go_simp
      with_reducible rfl
    rotate_left
    · simp only [Act.put, List.setIfInBounds_toArray, List.set_cons_zero, List.set_cons_succ, i64_w, i32_w]
      rfl
    refine pure_ (i := 8) (N := some 75) (v := ?_) (a' := ?_) #[true, true, true, true, true, true, true, true, true, true, true, true, false, false, false, false, false, false, false, false, false, false, false, false] rfl rfl (by kernel_rfl) (fun _ _ _ h => h) (Or.inl ⟨by rfl, ?_⟩) ?_ ?_
    rotate_left
    · intro w'
      go_simp
      with_reducible rfl
    rotate_left
    · simp only [Act.put, List.setIfInBounds_toArray, List.set_cons_zero, List.set_cons_succ, i64_w, i32_w]
      rfl
    refine take_ (i := 12) (N := some 79) (v := ?_) (a' := ?_) #[true, true, true, true, true, true, true, true, true, true, true, true, true, false, false, false, false, false, false, false, false, false, false, false] rfl rfl (by kernel_rfl) (fun _ _ _ h => h) (Or.inl ⟨by rfl, ?_⟩) hHeld ?_ ?_
    rotate_left
    · rintro w' ⟨s0, s1, s2⟩
      go_simp
      with_reducible rfl
    rotate_left
    · simp only [Act.put, List.setIfInBounds_toArray, List.set_cons_zero, List.set_cons_succ, i64_w, i32_w]
      rfl
    refine join_ (σ := Tk4) 4 #[true, true, true, true, true, true, true, true, true, true, true, true, true, true, true, true, true, true, true, true, false, false, false, false] (fun s => [(80, .tuple #[.agg #[.int .i64 s.y.k, .bool s.y.b, .int .i64 s.y.m, .int .i64 s.y.s, .string s.y.t, .bool s.y.lo, .bool s.y.hi, .slice s.y.A s.y.n s.y.c], .int .i64 s.n, .int .i64 s.p, .int .i64 s.f]), (66, .tuple #[.agg #[.int .i64 s.y.k, .bool s.y.b, .int .i64 s.y.m, .int .i64 s.y.s, .string s.y.t, .bool s.y.lo, .bool s.y.hi, .slice s.y.A s.y.n s.y.c], .int .i64 s.n, .int .i64 s.p, .int .i64 s.f]), (81, .agg #[.int .i64 s.y.k, .bool s.y.b, .int .i64 s.y.m, .int .i64 s.y.s, .string s.y.t, .bool s.y.lo, .bool s.y.hi, .slice s.y.A s.y.n s.y.c]), (82, .int .i64 s.n), (83, .int .i64 s.p), (84, .int .i64 s.f), (3, .pointer (some ⟨s.b, 0, none⟩))]) (fun s w' => Below W1.heap.size W1 w' ∧ w'.heap[s.b]? = some (.cells #[.int .i64 0, .bool false, .int .i64 0, .int .i64 0, .string ⟨#[]⟩, .bool false, .bool false, .slice none 0 0] 110 (0, 0)) ∧ W1.heap.size ≤ s.b ∧ (s.f = 0 → ∃ a' : Nat, s.n = a' ∧ a' ≤ x.l)) ?_ ?_
    rotate_left
    · intro hCont
      refine two_ (i := 13) (j := 19) (Ni := some 80) (Nj := some 3) #[true, true, true, true, true, true, true, true, true, true, true, true, true, true, false, false, false, false, false, false, false, false, false, false] #[true, true, true, true, true, true, true, true, true, true, true, true, true, false, false, false, false, false, false, true, false, false, false, false] rfl rfl rfl rfl (by kernel_rfl) (by decide) (by decide) (fun K hK => ?_) (fun K hK => ?_)
      · skip
        refine goes_ Try.func63 (by kernel_rfl) rfl #[.slice x.A x.l x.c, .int .i64 (wrap64 ((a : Int) + 1)), .int .i64 en] (by rfl) rfl rfl (by simp only [List.map_toArray, List.map_cons, List.map_nil]; rfl) ?_
        with_reducible refine (HT.out _ (by go_grown)).mono ?_
        rintro e w5 ⟨⟨y, n, p, f, rfl, hn⟩, hb5, hb51⟩
        refine ⟨_, rfl, ?_⟩
        refine hK.out _ _ ⟨(HF.out _ hb51).1, (HF.out _ hb51).2.1, (HF.out _ hb51).2.2⟩ (fun hHeld => ?_)
        clear hK K
        refine norm_ (a' := ?_) ?_ ?_
        rotate_left
        · show Act.put _ (some 80) _ = _
          simp only [Act.put, List.setIfInBounds_toArray, List.set_cons_zero, List.set_cons_succ, i64_w, i32_w]
          rfl
        refine pure_ (i := 14) (N := some 66) (v := ?_) (a' := ?_) #[true, true, true, true, true, true, true, true, true, true, true, true, true, true, true, false, false, false, false, false, false, false, false, false] rfl rfl (by kernel_rfl) (fun _ _ _ h => h) (Or.inl ⟨by rfl, ?_⟩) ?_ ?_
        rotate_left
        · intro w'
          go_simp
          with_reducible rfl
        rotate_left
        · simp only [Act.put, List.setIfInBounds_toArray, List.set_cons_zero, List.set_cons_succ, i64_w, i32_w]
          rfl
        refine pure_ (i := 15) (N := some 81) (v := ?_) (a' := ?_) #[true, true, true, true, true, true, true, true, true, true, true, true, true, true, true, true, false, false, false, false, false, false, false, false] rfl rfl (by kernel_rfl) (fun _ _ _ h => h) (Or.inl ⟨by rfl, ?_⟩) ?_ ?_
        rotate_left
        · intro w'
          go_simp
          with_reducible rfl
        rotate_left
        · simp only [Act.put, List.setIfInBounds_toArray, List.set_cons_zero, List.set_cons_succ, i64_w, i32_w]
          rfl
        refine pure_ (i := 16) (N := some 82) (v := ?_) (a' := ?_) #[true, true, true, true, true, true, true, true, true, true, true, true, true, true, true, true, true, false, false, false, false, false, false, false] rfl rfl (by kernel_rfl) (fun _ _ _ h => h) (Or.inl ⟨by rfl, ?_⟩) ?_ ?_
        rotate_left
        · intro w'
          go_simp
          with_reducible rfl
        rotate_left
        · simp only [Act.put, List.setIfInBounds_toArray, List.set_cons_zero, List.set_cons_succ, i64_w, i32_w]
          rfl
        refine pure_ (i := 17) (N := some 83) (v := ?_) (a' := ?_) #[true, true, true, true, true, true, true, true, true, true, true, true, true, true, true, true, true, true, false, false, false, false, false, false] rfl rfl (by kernel_rfl) (fun _ _ _ h => h) (Or.inl ⟨by rfl, ?_⟩) ?_ ?_
        rotate_left
        · intro w'
          go_simp
          with_reducible rfl
        rotate_left
        · simp only [Act.put, List.setIfInBounds_toArray, List.set_cons_zero, List.set_cons_succ, i64_w, i32_w]
          rfl
        refine pure_ (i := 18) (N := some 84) (v := ?_) (a' := ?_) #[true, true, true, true, true, true, true, true, true, true, true, true, true, true, true, true, true, true, true, false, false, false, false, false] rfl rfl (by kernel_rfl) (fun _ _ _ h => h) (Or.inl ⟨by rfl, ?_⟩) ?_ ?_
        rotate_left
        · intro w'
          go_simp
          with_reducible rfl
        rotate_left
        · simp only [Act.put, List.setIfInBounds_toArray, List.set_cons_zero, List.set_cons_succ, i64_w, i32_w]
          rfl
        refine one_ (i := 19) (N := some 3) #[true, true, true, true, true, true, true, true, true, true, true, true, true, true, true, true, true, true, true, true, false, false, false, false] rfl rfl (by kernel_rfl) (by decide) (fun K hK => ?_)
        refine value_ (w1 := ?_) (v := ?_) (by rfl) rfl ?_ ?_
        rotate_left 2
        · go_simp
          constructor
          · rfl
          · rfl
        refine hK.out _ _ ⟨(HF.out _ (by have := hb51.size; go_grown)).1, (HF.out _ (by have := hb51.size; go_grown)).2.1, (HF.out _ (by have := hb51.size; go_grown)).2.2⟩ (fun hHeld => ?_)
        clear hK K
        refine norm_ (a' := ?_) ?_ ?_
        rotate_left
        · show Act.put _ (some 3) _ = _
          simp only [Act.put, List.setIfInBounds_toArray, List.set_cons_zero, List.set_cons_succ, i64_w, i32_w]
          rfl
        exact norm_ (by simp only [putAll, Act.put, List.setIfInBounds_toArray, List.set_cons_zero, List.set_cons_succ]) (hCont ⟨w5.heap.size, y, n, p, f⟩ _ ⟨by have := hb51.size; go_grown, heap_alloc_new w5 _, hb51.size, hn⟩)
      · skip
        refine value_ (w1 := ?_) (v := ?_) (by rfl) rfl ?_ ?_
        rotate_left 2
        · go_simp
          constructor
          · rfl
          · rfl
        refine hK.out _ _ ⟨(HF.out _ (by go_grown)).1, (HF.out _ (by go_grown)).2.1, (HF.out _ (by go_grown)).2.2⟩ (fun hHeld => ?_)
        clear hK K
        refine norm_ (a' := ?_) ?_ ?_
        rotate_left
        · show Act.put _ (some 3) _ = _
          simp only [Act.put, List.setIfInBounds_toArray, List.set_cons_zero, List.set_cons_succ, i64_w, i32_w]
          rfl
        refine one_ (i := 13) (N := some 80) #[true, true, true, true, true, true, true, true, true, true, true, true, true, true, false, false, false, false, false, true, false, false, false, false] rfl rfl (by kernel_rfl) (by decide) (fun K hK => ?_)
        refine goes_ Try.func63 (by kernel_rfl) rfl #[.slice x.A x.l x.c, .int .i64 (wrap64 ((a : Int) + 1)), .int .i64 en] (by rfl) rfl rfl (by simp only [List.map_toArray, List.map_cons, List.map_nil]; rfl) ?_
        with_reducible refine (HT.out _ (by go_grown)).mono ?_
        rintro e w5 ⟨⟨y, n, p, f, rfl, hn⟩, hb5, hb51⟩
        refine ⟨_, rfl, ?_⟩
        refine hK.out _ _ ⟨(HF.out _ hb51).1, (HF.out _ hb51).2.1, (HF.out _ hb51).2.2⟩ (fun hHeld => ?_)
        clear hK K
        refine norm_ (a' := ?_) ?_ ?_
        rotate_left
        · show Act.put _ (some 80) _ = _
          simp only [Act.put, List.setIfInBounds_toArray, List.set_cons_zero, List.set_cons_succ, i64_w, i32_w]
          rfl
        refine pure_ (i := 14) (N := some 66) (v := ?_) (a' := ?_) #[true, true, true, true, true, true, true, true, true, true, true, true, true, true, true, false, false, false, false, true, false, false, false, false] rfl rfl (by kernel_rfl) (fun _ _ _ h => h) (Or.inl ⟨by rfl, ?_⟩) ?_ ?_
        rotate_left
        · intro w'
          go_simp
          with_reducible rfl
        rotate_left
        · simp only [Act.put, List.setIfInBounds_toArray, List.set_cons_zero, List.set_cons_succ, i64_w, i32_w]
          rfl
        refine pure_ (i := 15) (N := some 81) (v := ?_) (a' := ?_) #[true, true, true, true, true, true, true, true, true, true, true, true, true, true, true, true, false, false, false, true, false, false, false, false] rfl rfl (by kernel_rfl) (fun _ _ _ h => h) (Or.inl ⟨by rfl, ?_⟩) ?_ ?_
        rotate_left
        · intro w'
          go_simp
          with_reducible rfl
        rotate_left
        · simp only [Act.put, List.setIfInBounds_toArray, List.set_cons_zero, List.set_cons_succ, i64_w, i32_w]
          rfl
        refine pure_ (i := 16) (N := some 82) (v := ?_) (a' := ?_) #[true, true, true, true, true, true, true, true, true, true, true, true, true, true, true, true, true, false, false, true, false, false, false, false] rfl rfl (by kernel_rfl) (fun _ _ _ h => h) (Or.inl ⟨by rfl, ?_⟩) ?_ ?_
        rotate_left
        · intro w'
          go_simp
          with_reducible rfl
        rotate_left
        · simp only [Act.put, List.setIfInBounds_toArray, List.set_cons_zero, List.set_cons_succ, i64_w, i32_w]
          rfl
        refine pure_ (i := 17) (N := some 83) (v := ?_) (a' := ?_) #[true, true, true, true, true, true, true, true, true, true, true, true, true, true, true, true, true, true, false, true, false, false, false, false] rfl rfl (by kernel_rfl) (fun _ _ _ h => h) (Or.inl ⟨by rfl, ?_⟩) ?_ ?_
        rotate_left
        · intro w'
          go_simp
          with_reducible rfl
        rotate_left
        · simp only [Act.put, List.setIfInBounds_toArray, List.set_cons_zero, List.set_cons_succ, i64_w, i32_w]
          rfl
        refine pure_ (i := 18) (N := some 84) (v := ?_) (a' := ?_) #[true, true, true, true, true, true, true, true, true, true, true, true, true, true, true, true, true, true, true, true, false, false, false, false] rfl rfl (by kernel_rfl) (fun _ _ _ h => h) (Or.inl ⟨by rfl, ?_⟩) ?_ ?_
        rotate_left
        · intro w'
          go_simp
          with_reducible rfl
        rotate_left
        · simp only [Act.put, List.setIfInBounds_toArray, List.set_cons_zero, List.set_cons_succ, i64_w, i32_w]
          rfl
        exact norm_ (by simp only [putAll, Act.put, List.setIfInBounds_toArray, List.set_cons_zero, List.set_cons_succ]) (hCont ⟨W1.heap.size, y, n, p, f⟩ _ ⟨hb51, (hb5.block W1.heap.size (by simp)).trans (heap_alloc_new W1 _), Nat.le_refl _, hn⟩)
    rintro ⟨b, y, n, p, f⟩ w3 h3
    have H3 := Lib.hid h3
    clear h3
    have hHeld : w3.cell? ⟨x.g, 0, none⟩ = some (.slice x.A x.l x.c) ∧ w3.cell? ⟨x.g, 1, none⟩ = some (.int .i64 a) ∧ w3.cell? ⟨x.g, 2, none⟩ = some (.int .i64 en) := HF.out _ H3.out.1
    obtain ⟨z0, z1, z2, z3, z4, z5, z6, z7, zf0, zf1, zf2, zf3, zf4, zf5, zf6, zf7⟩ := cells8 H3.out.2.1
    refine norm_ (a' := ?_) ?_ ?_
    rotate_left
    · simp only [putAll, Act.put, List.setIfInBounds_toArray, List.set_cons_zero, List.set_cons_succ]
      rfl
    refine one_ (i := 20) (N := none) #[true, true, true, true, true, true, true, true, true, true, true, true, true, true, true, true, true, true, true, true, true, false, false, false] rfl rfl (by kernel_rfl) (by decide) (fun K hK => ?_)
    refine skip_ (w1 := ?_) (by rfl) rfl ?_ ?_
    rotate_left
    · go_simp
      rfl
    generalize hw9 : World.setCell _ _ _ = w9
    have H9 : Hid (Below W1.heap.size W1 w9 ∧ w9.heap[b]? = some (.cells #[.int .i64 y.k, .bool y.b, .int .i64 y.m, .int .i64 y.s, .string y.t, .bool y.lo, .bool y.hi, .slice y.A y.n y.c] 110 (0, 0))) := Lib.hid (by rw [← hw9]; exact ⟨below_far8 (W := w3) H3.out.1 H3.out.2.2.1 _ _ _ _ _ _ _ _, put8 (w := w3) H3.out.2.1 _ _ _ _ _ _ _ _⟩)
    clear hw9
    refine hK.out _ _ ⟨(HF.out _ H9.out.1).1, (HF.out _ H9.out.1).2.1, (HF.out _ H9.out.1).2.2⟩ (fun hHeld => ?_)
    clear hK K
    refine pure_ (i := 21) (N := some 4) (v := ?_) (a' := ?_) #[true, true, true, true, true, true, true, true, true, true, true, true, true, true, true, true, true, true, true, true, true, true, false, false] rfl rfl (by kernel_rfl) (fun _ _ _ h => h) (Or.inl ⟨by rfl, ?_⟩) ?_ ?_
    rotate_left
    · intro w'
      go_simp
      with_reducible rfl
    rotate_left
    · simp only [Act.put, List.setIfInBounds_toArray, List.set_cons_zero, List.set_cons_succ, i64_w, i32_w]
      rfl
    refine pure_ (i := 22) (N := some 5) (v := ?_) (a' := ?_) #[true, true, true, true, true, true, true, true, true, true, true, true, true, true, true, true, true, true, true, true, true, true, true, false] rfl rfl (by kernel_rfl) (fun _ _ _ h => h) (Or.inl ⟨by rfl, ?_⟩) ?_ ?_
    rotate_left
    · intro w'
      go_simp
      with_reducible rfl
    rotate_left
    · simp only [Act.put, List.setIfInBounds_toArray, List.set_cons_zero, List.set_cons_succ, i64_w, i32_w]
      rfl
    refine pure_ (i := 23) (N := some 6) (v := ?_) (a' := ?_) #[true, true, true, true, true, true, true, true, true, true, true, true, true, true, true, true, true, true, true, true, true, true, true, true] rfl rfl (by kernel_rfl) (fun _ _ _ h => h) (Or.inl ⟨by rfl, ?_⟩) ?_ ?_
    rotate_left
    · intro w'
      go_simp
      with_reducible rfl
    rotate_left
    · simp only [Act.put, List.setIfInBounds_toArray, List.set_cons_zero, List.set_cons_succ, i64_w, i32_w]
      rfl
    refine done_ (by kernel_rfl) ?_

    have H10 : Hid (x.at w9 a ∧ Below w.heap.size w w9 ∧ (f = 0 → ∃ a' : Nat, n = a' ∧ a' ≤ x.l)) := Lib.hid ⟨H1.out.1.below H9.out.1, H1.out.2.trans (H9.out.1.mono H1.out.2.size), H3.out.2.2.2⟩
    have c0 := (HF.out _ H9.out.1).1
    clear H9 H3 HF HT
    by_cases hf : f = 0
    · obtain ⟨a3, ea3, ha3⟩ := H10.out.2.2 hf
      subst ea3
      subst hf
      by_cases hl3 : a3 < x.l
      · obtain ⟨ad3, cs, e3, ⟨k3, t3, ps3, rfl, ht3⟩, hc⟩ := hx.row.get hl3
        have d0 : w9.cell? (ad3.add (a3 * 3)) = some (.int .i64 k3) := hc w9 H10.out.1.old 0 _ rfl
        have d1 : w9.cell? ⟨(ad3.add (a3 * 3)).block, (ad3.add (a3 * 3)).off + 1, none⟩ = some (.string t3) := by rw [← add_fld _ _ 1 (by omega)]; exact hc w9 H10.out.1.old 1 _ rfl
        rw [e3] at c0
        clear hc
        go_wp2_with fail
        all_goals (go_ret; exact ⟨retB _, H10.out.2.1⟩)
      · go_wp2_with fail
        all_goals (go_ret; exact ⟨retB _, H10.out.2.1⟩)
    · go_wp2_with fail
      all_goals (go_ret; exact ⟨retB _, H10.out.2.1⟩)
  have hq1 : (t.toList == [91]) = false := by simpa using h1
  have hq2 : (t.toList != [91]) = true := by simpa using h1
  clear h1
  by_cases h2 : t.toList = [40]
  · have hq3 : (t.toList == [40]) = true := by simpa using h2
    have hq4 : (t.toList != [40]) = false := by simpa using h2
    go_enter Try.func90, Try.ntmps90
    go_wp2_with fail
    go_quiet (fail)
    have H1 : Hid (x.at (w.drewN nq) a ∧ Below w.heap.size w (w.drewN nq)) := Lib.hid ⟨HX.out.below (below_drewN (Below.refl _ _) nq), below_drewN (Below.refl _ _) nq⟩
    rw [← e] at c0
    replace c0 : (w.drewN nq).cell? _ = _ := c0
    replace c1 : (w.drewN nq).cell? _ = _ := c1
    replace c2 : (w.drewN nq).cell? _ = _ := c2
    generalize w.drewN nq = W1 at H1 c0 c1 c2 ⊢
    clear d0 d1 c3 e ht
    have HF : Hid (∀ w', Below W1.heap.size W1 w' → w'.cell? ⟨x.g, 0, none⟩ = some (.slice x.A x.l x.c) ∧ w'.cell? ⟨x.g, 1, none⟩ = some (.int .i64 a) ∧ w'.cell? ⟨x.g, 2, none⟩ = some (.int .i64 en)) := Lib.hid (fun w' hb => ⟨cell_below hb (lt_of_cell c0) c0, cell_below hb (lt_of_cell c1) c1, cell_below hb (lt_of_cell c2) c2⟩)
    have HT : Hid (∀ w', Below W1.heap.size W1 w' → Calls Try.prog 63 #[.slice x.A x.l x.c, .int .i64 (wrap64 ((a : Int) + 1)), .int .i64 en] w' fun e w2 => RetK x.l e ∧ Below w'.heap.size w' w2 ∧ Below W1.heap.size W1 w2) := Lib.hid (fun w' hb => by rw [w64 hl (by omega)]; exact (take4_any hx.row hx.len w' (H1.out.1.old.trans (hb.mono H1.out.1.old.size)) (a + 1) (by omega) en).mono fun e w2 ⟨h1, h2⟩ => ⟨h1, h2, hb.trans (h2.mono hb.size)⟩)
    go_wp2_with fail
    refine start_ (n := 24) (S := fun w' => w'.cell? ⟨x.g, 0, none⟩ = some (.slice x.A x.l x.c) ∧ w'.cell? ⟨x.g, 1, none⟩ = some (.int .i64 a) ∧ w'.cell? ⟨x.g, 2, none⟩ = some (.int .i64 en)) (ds := []) #[false, false, false, false, false, false, false, false, false, false, false, false, false, false, false, false, false, false, false, false, false, false, false, false] (by kernel_rfl) rfl rfl ⟨c0, c1, c2⟩ (fun hHeld => ?_)
    refine pure_ (i := 0) (N := some 67) (v := ?_) (a' := ?_) #[true, false, false, false, false, false, false, false, false, false, false, false, false, false, false, false, false, false, false, false, false, false, false, false] rfl rfl (by kernel_rfl) (fun _ _ _ h => h) (Or.inl ⟨by rfl, ?_⟩) ?_ ?_
    rotate_left
    · intro w'
      go_simp
      with_reducible rfl
    rotate_left
    · simp only [Act.put, List.setIfInBounds_toArray, List.set_cons_zero, List.set_cons_succ, i64_w, i32_w]
      rfl
    refine pure_ (i := 1) (N := some 68) (v := ?_) (a' := ?_) #[true, true, false, false, false, false, false, false, false, false, false, false, false, false, false, false, false, false, false, false, false, false, false, false] rfl rfl (by kernel_rfl) (fun _ _ _ h => h) (Or.inl ⟨by rfl, ?_⟩) ?_ ?_
    rotate_left
    · intro w'
      go_simp
      with_reducible rfl
    rotate_left
    · simp only [Act.put, List.setIfInBounds_toArray, List.set_cons_zero, List.set_cons_succ, i64_w, i32_w]
      rfl
    refine pure_ (i := 2) (N := some 69) (v := ?_) (a' := ?_) #[true, true, true, false, false, false, false, false, false, false, false, false, false, false, false, false, false, false, false, false, false, false, false, false] rfl rfl (by kernel_rfl) (fun _ _ _ h => h) (Or.inl ⟨by rfl, ?_⟩) ?_ ?_
    rotate_left
    · intro w'
      go_simp
      with_reducible rfl
    rotate_left
    · simp only [Act.put, List.setIfInBounds_toArray, List.set_cons_zero, List.set_cons_succ, i64_w, i32_w]
      rfl
    refine pure_ (i := 4) (N := some 71) (v := ?_) (a' := ?_) #[true, true, true, false, true, false, false, false, false, false, false, false, false, false, false, false, false, false, false, false, false, false, false, false] rfl rfl (by kernel_rfl) (fun _ _ _ h => h) (Or.inl ⟨by rfl, ?_⟩) ?_ ?_
    rotate_left
    · intro w'
      go_simp
      with_reducible rfl
    rotate_left
    · simp only [Act.put, List.setIfInBounds_toArray, List.set_cons_zero, List.set_cons_succ, i64_w, i32_w]
      rfl
    refine pure_ (i := 5) (N := some 72) (v := ?_) (a' := ?_) #[true, true, true, false, true, true, false, false, false, false, false, false, false, false, false, false, false, false, false, false, false, false, false, false] rfl rfl (by kernel_rfl) (fun _ _ _ h => h) (Or.inl ⟨by rfl, ?_⟩) ?_ ?_
    rotate_left
    · intro w'
      go_simp
      with_reducible rfl
    rotate_left
    · simp only [Act.put, List.setIfInBounds_toArray, List.set_cons_zero, List.set_cons_succ, i64_w, i32_w]
      rfl
    refine pure_ (i := 6) (N := some 73) (v := ?_) (a' := ?_) #[true, true, true, false, true, true, true, false, false, false, false, false, false, false, false, false, false, false, false, false, false, false, false, false] rfl rfl (by kernel_rfl) (fun _ _ _ h => h) (Or.inl ⟨by rfl, ?_⟩) ?_ ?_
    rotate_left
    · intro w'
      go_simp
      with_reducible rfl
    rotate_left
    · simp only [Act.put, List.setIfInBounds_toArray, List.set_cons_zero, List.set_cons_succ, i64_w, i32_w]
      rfl
    refine pure_ (i := 9) (N := some 76) (v := ?_) (a' := ?_) #[true, true, true, false, true, true, true, false, false, true, false, false, false, false, false, false, false, false, false, false, false, false, false, false] rfl rfl (by kernel_rfl) (fun _ _ _ h => h) (Or.inl ⟨by rfl, ?_⟩) ?_ ?_
    rotate_left
    · intro w'
      go_simp
      with_reducible rfl
    rotate_left
    · simp only [Act.put, List.setIfInBounds_toArray, List.set_cons_zero, List.set_cons_succ, i64_w, i32_w]
      rfl
    refine pure_ (i := 10) (N := some 77) (v := ?_) (a' := ?_) #[true, true, true, false, true, true, true, false, false, true, true, false, false, false, false, false, false, false, false, false, false, false, false, false] rfl rfl (by kernel_rfl) (fun _ _ _ h => h) (Or.inl ⟨by rfl, ?_⟩) ?_ ?_
    rotate_left
    · intro w'
      go_simp
      with_reducible rfl
    rotate_left
    · simp only [Act.put, List.setIfInBounds_toArray, List.set_cons_zero, List.set_cons_succ, i64_w, i32_w]
      rfl
    refine pure_ (i := 11) (N := some 78) (v := ?_) (a' := ?_) #[true, true, true, false, true, true, true, false, false, true, true, true, false, false, false, false, false, false, false, false, false, false, false, false] rfl rfl (by kernel_rfl) (fun _ _ _ h => h) (Or.inl ⟨by rfl, ?_⟩) ?_ ?_
    rotate_left
    · intro w'
      go_simp
      with_reducible rfl
    rotate_left
    · simp only [Act.put, List.setIfInBounds_toArray, List.set_cons_zero, List.set_cons_succ, i64_w, i32_w]
      rfl
    refine take_ (i := 3) (N := some 70) (v := ?_) (a' := ?_) #[true, true, true, true, true, true, true, false, false, true, true, true, false, false, false, false, false, false, false, false, false, false, false, false] rfl rfl (by kernel_rfl) (fun _ _ _ h => h) (Or.inl ⟨by rfl, ?_⟩) hHeld ?_ ?_
    rotate_left
    · rintro w' ⟨s0, s1, s2⟩
      go_simp
      with_reducible rfl
    rotate_left
    · simp only [Act.put, List.setIfInBounds_toArray, List.set_cons_zero, List.set_cons_succ, i64_w, i32_w]
      rfl
    refine take_ (i := 7) (N := some 74) (v := ?_) (a' := ?_) #[true, true, true, true, true, true, true, true, false, true, true, true, false, false, false, false, false, false, false, false, false, false, false, false] rfl rfl (by kernel_rfl) (fun _ _ _ h => h) (Or.inl ⟨by rfl, ?_⟩) hHeld ?_ ?_
    rotate_left
    · rintro w' ⟨s0, s1, s2⟩
      go_simp
      with_reducible rfl
    rotate_left
    · simp only [Act.put, List.setIfInBounds_toArray, List.set_cons_zero, List.set_cons_succ, i64_w, i32_w]
      rfl
    refine pure_ (i := 8) (N := some 75) (v := ?_) (a' := ?_) #[true, true, true, true, true, true, true, true, true, true, true, true, false, false, false, false, false, false, false, false, false, false, false, false] rfl rfl (by kernel_rfl) (fun _ _ _ h => h) (Or.inl ⟨by rfl, ?_⟩) ?_ ?_
    rotate_left
    · intro w'
      go_simp
      with_reducible rfl
    rotate_left
    · simp only [Act.put, List.setIfInBounds_toArray, List.set_cons_zero, List.set_cons_succ, i64_w, i32_w]
      rfl
    refine take_ (i := 12) (N := some 79) (v := ?_) (a' := ?_) #[true, true, true, true, true, true, true, true, true, true, true, true, true, false, false, false, false, false, false, false, false, false, false, false] rfl rfl (by kernel_rfl) (fun _ _ _ h => h) (Or.inl ⟨by rfl, ?_⟩) hHeld ?_ ?_
    rotate_left
    · rintro w' ⟨s0, s1, s2⟩
      go_simp
      with_reducible rfl
    rotate_left
    · simp only [Act.put, List.setIfInBounds_toArray, List.set_cons_zero, List.set_cons_succ, i64_w, i32_w]
      rfl
    refine join_ (σ := Tk4) 4 #[true, true, true, true, true, true, true, true, true, true, true, true, true, true, true, true, true, true, true, true, false, false, false, false] (fun s => [(80, .tuple #[.agg #[.int .i64 s.y.k, .bool s.y.b, .int .i64 s.y.m, .int .i64 s.y.s, .string s.y.t, .bool s.y.lo, .bool s.y.hi, .slice s.y.A s.y.n s.y.c], .int .i64 s.n, .int .i64 s.p, .int .i64 s.f]), (66, .tuple #[.agg #[.int .i64 s.y.k, .bool s.y.b, .int .i64 s.y.m, .int .i64 s.y.s, .string s.y.t, .bool s.y.lo, .bool s.y.hi, .slice s.y.A s.y.n s.y.c], .int .i64 s.n, .int .i64 s.p, .int .i64 s.f]), (81, .agg #[.int .i64 s.y.k, .bool s.y.b, .int .i64 s.y.m, .int .i64 s.y.s, .string s.y.t, .bool s.y.lo, .bool s.y.hi, .slice s.y.A s.y.n s.y.c]), (82, .int .i64 s.n), (83, .int .i64 s.p), (84, .int .i64 s.f), (3, .pointer (some ⟨s.b, 0, none⟩))]) (fun s w' => Below W1.heap.size W1 w' ∧ w'.heap[s.b]? = some (.cells #[.int .i64 0, .bool false, .int .i64 0, .int .i64 0, .string ⟨#[]⟩, .bool false, .bool false, .slice none 0 0] 110 (0, 0)) ∧ W1.heap.size ≤ s.b ∧ (s.f = 0 → ∃ a' : Nat, s.n = a' ∧ a' ≤ x.l)) ?_ ?_
    rotate_left
    · intro hCont
      refine two_ (i := 13) (j := 19) (Ni := some 80) (Nj := some 3) #[true, true, true, true, true, true, true, true, true, true, true, true, true, true, false, false, false, false, false, false, false, false, false, false] #[true, true, true, true, true, true, true, true, true, true, true, true, true, false, false, false, false, false, false, true, false, false, false, false] rfl rfl rfl rfl (by kernel_rfl) (by decide) (by decide) (fun K hK => ?_) (fun K hK => ?_)
      · skip
        refine goes_ Try.func63 (by kernel_rfl) rfl #[.slice x.A x.l x.c, .int .i64 (wrap64 ((a : Int) + 1)), .int .i64 en] (by rfl) rfl rfl (by simp only [List.map_toArray, List.map_cons, List.map_nil]; rfl) ?_
        with_reducible refine (HT.out _ (by go_grown)).mono ?_
        rintro e w5 ⟨⟨y, n, p, f, rfl, hn⟩, hb5, hb51⟩
        refine ⟨_, rfl, ?_⟩
        refine hK.out _ _ ⟨(HF.out _ hb51).1, (HF.out _ hb51).2.1, (HF.out _ hb51).2.2⟩ (fun hHeld => ?_)
        clear hK K
        refine norm_ (a' := ?_) ?_ ?_
        rotate_left
        · show Act.put _ (some 80) _ = _
          simp only [Act.put, List.setIfInBounds_toArray, List.set_cons_zero, List.set_cons_succ, i64_w, i32_w]
          rfl
        refine pure_ (i := 14) (N := some 66) (v := ?_) (a' := ?_) #[true, true, true, true, true, true, true, true, true, true, true, true, true, true, true, false, false, false, false, false, false, false, false, false] rfl rfl (by kernel_rfl) (fun _ _ _ h => h) (Or.inl ⟨by rfl, ?_⟩) ?_ ?_
        rotate_left
        · intro w'
          go_simp
          with_reducible rfl
        rotate_left
        · simp only [Act.put, List.setIfInBounds_toArray, List.set_cons_zero, List.set_cons_succ, i64_w, i32_w]
          rfl
        refine pure_ (i := 15) (N := some 81) (v := ?_) (a' := ?_) #[true, true, true, true, true, true, true, true, true, true, true, true, true, true, true, true, false, false, false, false, false, false, false, false] rfl rfl (by kernel_rfl) (fun _ _ _ h => h) (Or.inl ⟨by rfl, ?_⟩) ?_ ?_
        rotate_left
        · intro w'
          go_simp
          with_reducible rfl
        rotate_left
        · simp only [Act.put, List.setIfInBounds_toArray, List.set_cons_zero, List.set_cons_succ, i64_w, i32_w]
          rfl
        refine pure_ (i := 16) (N := some 82) (v := ?_) (a' := ?_) #[true, true, true, true, true, true, true, true, true, true, true, true, true, true, true, true, true, false, false, false, false, false, false, false] rfl rfl (by kernel_rfl) (fun _ _ _ h => h) (Or.inl ⟨by rfl, ?_⟩) ?_ ?_
        rotate_left
        · intro w'
          go_simp
          with_reducible rfl
        rotate_left
        · simp only [Act.put, List.setIfInBounds_toArray, List.set_cons_zero, List.set_cons_succ, i64_w, i32_w]
          rfl
        refine pure_ (i := 17) (N := some 83) (v := ?_) (a' := ?_) #[true, true, true, true, true, true, true, true, true, true, true, true, true, true, true, true, true, true, false, false, false, false, false, false] rfl rfl (by kernel_rfl) (fun _ _ _ h => h) (Or.inl ⟨by rfl, ?_⟩) ?_ ?_
        rotate_left
        · intro w'
          go_simp
          with_reducible rfl
        rotate_left
        · simp only [Act.put, List.setIfInBounds_toArray, List.set_cons_zero, List.set_cons_succ, i64_w, i32_w]
          rfl
        refine pure_ (i := 18) (N := some 84) (v := ?_) (a' := ?_) #[true, true, true, true, true, true, true, true, true, true, true, true, true, true, true, true, true, true, true, false, false, false, false, false] rfl rfl (by kernel_rfl) (fun _ _ _ h => h) (Or.inl ⟨by rfl, ?_⟩) ?_ ?_
        rotate_left
        · intro w'
          go_simp
          with_reducible rfl
        rotate_left
        · simp only [Act.put, List.setIfInBounds_toArray, List.set_cons_zero, List.set_cons_succ, i64_w, i32_w]
          rfl
        refine one_ (i := 19) (N := some 3) #[true, true, true, true, true, true, true, true, true, true, true, true, true, true, true, true, true, true, true, true, false, false, false, false] rfl rfl (by kernel_rfl) (by decide) (fun K hK => ?_)
        refine value_ (w1 := ?_) (v := ?_) (by rfl) rfl ?_ ?_
        rotate_left 2
        · go_simp
          constructor
          · rfl
          · rfl
        refine hK.out _ _ ⟨(HF.out _ (by have := hb51.size; go_grown)).1, (HF.out _ (by have := hb51.size; go_grown)).2.1, (HF.out _ (by have := hb51.size; go_grown)).2.2⟩ (fun hHeld => ?_)
        clear hK K
        refine norm_ (a' := ?_) ?_ ?_
        rotate_left
        · show Act.put _ (some 3) _ = _
          simp only [Act.put, List.setIfInBounds_toArray, List.set_cons_zero, List.set_cons_succ, i64_w, i32_w]
          rfl
        exact norm_ (by simp only [putAll, Act.put, List.setIfInBounds_toArray, List.set_cons_zero, List.set_cons_succ]) (hCont ⟨w5.heap.size, y, n, p, f⟩ _ ⟨by have := hb51.size; go_grown, heap_alloc_new w5 _, hb51.size, hn⟩)
      · skip
        refine value_ (w1 := ?_) (v := ?_) (by rfl) rfl ?_ ?_
        rotate_left 2
        · go_simp
          constructor
          · rfl
          · rfl
        refine hK.out _ _ ⟨(HF.out _ (by go_grown)).1, (HF.out _ (by go_grown)).2.1, (HF.out _ (by go_grown)).2.2⟩ (fun hHeld => ?_)
        clear hK K
        refine norm_ (a' := ?_) ?_ ?_
        rotate_left
        · show Act.put _ (some 3) _ = _
          simp only [Act.put, List.setIfInBounds_toArray, List.set_cons_zero, List.set_cons_succ, i64_w, i32_w]
          rfl
        refine one_ (i := 13) (N := some 80) #[true, true, true, true, true, true, true, true, true, true, true, true, true, true, false, false, false, false, false, true, false, false, false, false] rfl rfl (by kernel_rfl) (by decide) (fun K hK => ?_)
        refine goes_ Try.func63 (by kernel_rfl) rfl #[.slice x.A x.l x.c, .int .i64 (wrap64 ((a : Int) + 1)), .int .i64 en] (by rfl) rfl rfl (by simp only [List.map_toArray, List.map_cons, List.map_nil]; rfl) ?_
        with_reducible refine (HT.out _ (by go_grown)).mono ?_
        rintro e w5 ⟨⟨y, n, p, f, rfl, hn⟩, hb5, hb51⟩
        refine ⟨_, rfl, ?_⟩
        refine hK.out _ _ ⟨(HF.out _ hb51).1, (HF.out _ hb51).2.1, (HF.out _ hb51).2.2⟩ (fun hHeld => ?_)
        clear hK K
        refine norm_ (a' := ?_) ?_ ?_
        rotate_left
        · show Act.put _ (some 80) _ = _
          simp only [Act.put, List.setIfInBounds_toArray, List.set_cons_zero, List.set_cons_succ, i64_w, i32_w]
          rfl
        refine pure_ (i := 14) (N := some 66) (v := ?_) (a' := ?_) #[true, true, true, true, true, true, true, true, true, true, true, true, true, true, true, false, false, false, false, true, false, false, false, false] rfl rfl (by kernel_rfl) (fun _ _ _ h => h) (Or.inl ⟨by rfl, ?_⟩) ?_ ?_
        rotate_left
        · intro w'
          go_simp
          with_reducible rfl
        rotate_left
        · simp only [Act.put, List.setIfInBounds_toArray, List.set_cons_zero, List.set_cons_succ, i64_w, i32_w]
          rfl
        refine pure_ (i := 15) (N := some 81) (v := ?_) (a' := ?_) #[true, true, true, true, true, true, true, true, true, true, true, true, true, true, true, true, false, false, false, true, false, false, false, false] rfl rfl (by kernel_rfl) (fun _ _ _ h => h) (Or.inl ⟨by rfl, ?_⟩) ?_ ?_
        rotate_left
        · intro w'
          go_simp
          with_reducible rfl
        rotate_left
        · simp only [Act.put, List.setIfInBounds_toArray, List.set_cons_zero, List.set_cons_succ, i64_w, i32_w]
          rfl
        refine pure_ (i := 16) (N := some 82) (v := ?_) (a' := ?_) #[true, true, true, true, true, true, true, true, true, true, true, true, true, true, true, true, true, false, false, true, false, false, false, false] rfl rfl (by kernel_rfl) (fun _ _ _ h => h) (Or.inl ⟨by rfl, ?_⟩) ?_ ?_
        rotate_left
        · intro w'
          go_simp
          with_reducible rfl
        rotate_left
        · simp only [Act.put, List.setIfInBounds_toArray, List.set_cons_zero, List.set_cons_succ, i64_w, i32_w]
          rfl
        refine pure_ (i := 17) (N := some 83) (v := ?_) (a' := ?_) #[true, true, true, true, true, true, true, true, true, true, true, true, true, true, true, true, true, true, false, true, false, false, false, false] rfl rfl (by kernel_rfl) (fun _ _ _ h => h) (Or.inl ⟨by rfl, ?_⟩) ?_ ?_
        rotate_left
        · intro w'
          go_simp
          with_reducible rfl
        rotate_left
        · simp only [Act.put, List.setIfInBounds_toArray, List.set_cons_zero, List.set_cons_succ, i64_w, i32_w]
          rfl
        refine pure_ (i := 18) (N := some 84) (v := ?_) (a' := ?_) #[true, true, true, true, true, true, true, true, true, true, true, true, true, true, true, true, true, true, true, true, false, false, false, false] rfl rfl (by kernel_rfl) (fun _ _ _ h => h) (Or.inl ⟨by rfl, ?_⟩) ?_ ?_
        rotate_left
        · intro w'
          go_simp
          with_reducible rfl
        rotate_left
        · simp only [Act.put, List.setIfInBounds_toArray, List.set_cons_zero, List.set_cons_succ, i64_w, i32_w]
          rfl
        exact norm_ (by simp only [putAll, Act.put, List.setIfInBounds_toArray, List.set_cons_zero, List.set_cons_succ]) (hCont ⟨W1.heap.size, y, n, p, f⟩ _ ⟨hb51, (hb5.block W1.heap.size (by simp)).trans (heap_alloc_new W1 _), Nat.le_refl _, hn⟩)
    rintro ⟨b, y, n, p, f⟩ w3 h3
    have H3 := Lib.hid h3
    clear h3
    have hHeld : w3.cell? ⟨x.g, 0, none⟩ = some (.slice x.A x.l x.c) ∧ w3.cell? ⟨x.g, 1, none⟩ = some (.int .i64 a) ∧ w3.cell? ⟨x.g, 2, none⟩ = some (.int .i64 en) := HF.out _ H3.out.1
    obtain ⟨z0, z1, z2, z3, z4, z5, z6, z7, zf0, zf1, zf2, zf3, zf4, zf5, zf6, zf7⟩ := cells8 H3.out.2.1
    refine norm_ (a' := ?_) ?_ ?_
    rotate_left
    · simp only [putAll, Act.put, List.setIfInBounds_toArray, List.set_cons_zero, List.set_cons_succ]
      rfl
    refine one_ (i := 20) (N := none) #[true, true, true, true, true, true, true, true, true, true, true, true, true, true, true, true, true, true, true, true, true, false, false, false] rfl rfl (by kernel_rfl) (by decide) (fun K hK => ?_)
    refine skip_ (w1 := ?_) (by rfl) rfl ?_ ?_
    rotate_left
    · go_simp
      rfl
    generalize hw9 : World.setCell _ _ _ = w9
    have H9 : Hid (Below W1.heap.size W1 w9 ∧ w9.heap[b]? = some (.cells #[.int .i64 y.k, .bool y.b, .int .i64 y.m, .int .i64 y.s, .string y.t, .bool y.lo, .bool y.hi, .slice y.A y.n y.c] 110 (0, 0))) := Lib.hid (by rw [← hw9]; exact ⟨below_far8 (W := w3) H3.out.1 H3.out.2.2.1 _ _ _ _ _ _ _ _, put8 (w := w3) H3.out.2.1 _ _ _ _ _ _ _ _⟩)
    clear hw9
    refine hK.out _ _ ⟨(HF.out _ H9.out.1).1, (HF.out _ H9.out.1).2.1, (HF.out _ H9.out.1).2.2⟩ (fun hHeld => ?_)
    clear hK K
    refine pure_ (i := 21) (N := some 4) (v := ?_) (a' := ?_) #[true, true, true, true, true, true, true, true, true, true, true, true, true, true, true, true, true, true, true, true, true, true, false, false] rfl rfl (by kernel_rfl) (fun _ _ _ h => h) (Or.inl ⟨by rfl, ?_⟩) ?_ ?_
    rotate_left
    · intro w'
      go_simp
      with_reducible rfl
    rotate_left
    · simp only [Act.put, List.setIfInBounds_toArray, List.set_cons_zero, List.set_cons_succ, i64_w, i32_w]
      rfl
    refine pure_ (i := 22) (N := some 5) (v := ?_) (a' := ?_) #[true, true, true, true, true, true, true, true, true, true, true, true, true, true, true, true, true, true, true, true, true, true, true, false] rfl rfl (by kernel_rfl) (fun _ _ _ h => h) (Or.inl ⟨by rfl, ?_⟩) ?_ ?_
    rotate_left
    · intro w'
      go_simp
      with_reducible rfl
    rotate_left
    · simp only [Act.put, List.setIfInBounds_toArray, List.set_cons_zero, List.set_cons_succ, i64_w, i32_w]
      rfl
    refine pure_ (i := 23) (N := some 6) (v := ?_) (a' := ?_) #[true, true, true, true, true, true, true, true, true, true, true, true, true, true, true, true, true, true, true, true, true, true, true, true] rfl rfl (by kernel_rfl) (fun _ _ _ h => h) (Or.inl ⟨by rfl, ?_⟩) ?_ ?_
    rotate_left
    · intro w'
      go_simp
      with_reducible rfl
    rotate_left
    · simp only [Act.put, List.setIfInBounds_toArray, List.set_cons_zero, List.set_cons_succ, i64_w, i32_w]
      rfl
    refine done_ (by kernel_rfl) ?_

    have H10 : Hid (x.at w9 a ∧ Below w.heap.size w w9 ∧ (f = 0 → ∃ a' : Nat, n = a' ∧ a' ≤ x.l)) := Lib.hid ⟨H1.out.1.below H9.out.1, H1.out.2.trans (H9.out.1.mono H1.out.2.size), H3.out.2.2.2⟩
    have c0 := (HF.out _ H9.out.1).1
    clear H9 H3 HF HT
    by_cases hf : f = 0
    · obtain ⟨a3, ea3, ha3⟩ := H10.out.2.2 hf
      subst ea3
      subst hf
      by_cases hl3 : a3 < x.l
      · obtain ⟨ad3, cs, e3, ⟨k3, t3, ps3, rfl, ht3⟩, hc⟩ := hx.row.get hl3
        have d0 : w9.cell? (ad3.add (a3 * 3)) = some (.int .i64 k3) := hc w9 H10.out.1.old 0 _ rfl
        have d1 : w9.cell? ⟨(ad3.add (a3 * 3)).block, (ad3.add (a3 * 3)).off + 1, none⟩ = some (.string t3) := by rw [← add_fld _ _ 1 (by omega)]; exact hc w9 H10.out.1.old 1 _ rfl
        rw [e3] at c0
        clear hc
        go_wp2_with fail
        all_goals (go_ret; exact ⟨retB _, H10.out.2.1⟩)
      · go_wp2_with fail
        all_goals (go_ret; exact ⟨retB _, H10.out.2.1⟩)
    · go_wp2_with fail
      all_goals (go_ret; exact ⟨retB _, H10.out.2.1⟩)
  have hq3 : (t.toList == [40]) = false := by simpa using h2
  have hq4 : (t.toList != [40]) = true := by simpa using h2
  clear h2
  go_enter Try.func90, Try.ntmps90
  go_wp2_with fail
  go_quiet (fail)
  have HB4 : Hid (Below w.heap.size w (w.drewN nq)) := Lib.hid (below_drewN (Below.refl _ _) nq)
  generalize w.drewN nq = w4 at HB4 ⊢
  go_wp2_with fail
  go_ret
  exact ⟨retB _, HB4.out⟩
end Go.Proofs.Ytaddhackggbdkaa
