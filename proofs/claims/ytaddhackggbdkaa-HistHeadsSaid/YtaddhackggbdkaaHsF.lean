/- The parser joined by induction over the depth; the reader of a cell's smallest steps. Conditions stand in each part's own head. -/
import Derived.Test.YtaddhackggbdkaaHsE
/-! The parser's functions joined by induction over the depth; a text parsed; conditions: the tokens lie in an elder world. -/
namespace Go.Proofs.Ytaddhackggbdkaa
open Go.RowKit Go.Proofs.YtaddhackggbdkaaW.PrintLast
open Go.Proofs.YtaddhackggbdkaaW.PrintWords (results_ctt)
set_option maxRecDepth 100000
set_option linter.unusedSimpArgs false
theorem both (x : Cx) (hx : x.ok) : ∀ (n : Nat) (d : Int), 0 ≤ d → d + n = 9 → x.PE 70 d ∧ x.PE 95 d := by
  intro n
  induction n with
  | zero => exact fun d h0 h => ⟨expr_any x hx d (fun h8 => by omega), unary_any x hx d h0 (fun h8 => by omega) (fun h8 => by omega)⟩
  | succ n ih =>
    intro d h0 h
    obtain ⟨hE, hU⟩ := ih (d + 1) (by omega) (by omega)
    have h8 : d ≤ 8 := by omega
    have h95 := unary_any x hx d h0 (fun _ => hU) (fun _ => atom_any x hx d h0 h8 hE)
    exact ⟨expr_any x hx d (fun _ => and_any x hx d (cmp4_any x hx d h0 h8 (add_any x hx d (mul_any x hx d h95)) hE)), h95⟩
theorem results_cttt {P : Program} {fn : Func} {p u v z : Tmp} {ty : TypeId} (h : fn.results = #[.cell p ty, .tmp u, .tmp v, .tmp z]) (tmps : Array Value) (w : World) (g : Nat) (t : TypeId) (cs : Array Value) (fr : Nat × Nat) (d : TypeDesc)
    (hp : tmps.getD p undef = .pointer (some ⟨g, 0, none⟩)) (hg : w.heap[g]? = some (.cells cs t fr))
    (hu : P.underlying ty = some d) (hd : (match d with | .struct _ | .array _ _ => true | _ => false) = true) (hi : (P.info? ty).map (·.size) = some cs.size) :
    (results fn tmps).run P w = .ok (.tuple #[.agg cs, tmps.getD u undef, tmps.getD v undef, tmps.getD z undef]) w := by
  have hp' : tmps[p]?.getD undef = .pointer (some ⟨g, 0, none⟩) := by simpa using hp
  simp [results, h, hp', asAddr, run_loadVar_row w g t ty cs fr d hg hu hd hi]
/-- A row in a later world. -/
theorem Row.upto {W w : World} {P : List Value → Prop} {sz : Nat} {A : Option Addr} {l c : Nat} (h : Row W P sz A l c) (hb : Below W.heap.size W w) : Row w P sz A l c := by
  refine ⟨h.1, h.2.1, fun i hi => ?_⟩
  obtain ⟨ad, cs, e, hlt, hp, hc⟩ := h.2.2 i hi
  refine ⟨ad, cs, e, Nat.lt_of_lt_of_le hlt hb.size, hp, fun j u hj => ?_⟩
  have hcj := hc j u hj
  exact cell_below hb (lt_of_cell hcj) hcj
/-- The expression, where its text ended, where and what the error is; without error it ended at a token. -/
def RetK (l : Nat) (e : Ending) : Prop := ∃ (y : Ex) (n p f : Int), e = .returned (.tuple #[.agg #[.int .i64 y.k, .bool y.b, .int .i64 y.m, .int .i64 y.s, .string y.t, .bool y.lo, .bool y.hi, .slice y.A y.n y.c], .int .i64 n, .int .i64 p, .int .i64 f]) ∧ (f = 0 → ∃ a : Nat, n = a ∧ a ≤ l)
def RetM (e : Ending) : Prop := ∃ (y : Ex) (n f : Int), e = .returned (.tuple #[.agg #[.int .i64 y.k, .bool y.b, .int .i64 y.m, .int .i64 y.s, .string y.t, .bool y.lo, .bool y.hi, .slice y.A y.n y.c], .int .i64 n, .int .i64 f])
theorem cell_far8 {w : World} {g b : Nat} (h : b ≠ g) (o : Nat) (y0 y1 y2 y3 y4 y5 y6 y7 : Value) :
    ((((((((w.setCell ⟨g, 0, none⟩ y0).setCell ⟨g, 1, none⟩ y1).setCell ⟨g, 2, none⟩ y2).setCell ⟨g, 3, none⟩ y3).setCell ⟨g, 4, none⟩ y4).setCell ⟨g, 5, none⟩ y5).setCell ⟨g, 6, none⟩ y6).setCell ⟨g, 7, none⟩ y7).cell? ⟨b, o, none⟩ = w.cell? ⟨b, o, none⟩ :=
  World.cell?_of_block (far8 h _ _ _ _ _ _ _ _)
theorem below_far8 {B : Nat} {w W : World} {g : Nat} (h : Below B w W) (hg : B ≤ g) (y0 y1 y2 y3 y4 y5 y6 y7 : Value) :
    Below B w ((((((((W.setCell ⟨g, 0, none⟩ y0).setCell ⟨g, 1, none⟩ y1).setCell ⟨g, 2, none⟩ y2).setCell ⟨g, 3, none⟩ y3).setCell ⟨g, 4, none⟩ y4).setCell ⟨g, 5, none⟩ y5).setCell ⟨g, 6, none⟩ y6).setCell ⟨g, 7, none⟩ y7) :=
  (((((((h.setCell hg _).setCell hg _).setCell hg _).setCell hg _).setCell hg _).setCell hg _).setCell hg _).setCell hg _
/-- A token lies not where an expression that holds nothing lies. -/
theorem not_blank {w : World} {r : Nat} (h : w.heap[r]? = some (.cells #[.int .i64 0, .bool false, .int .i64 0, .int .i64 0, .string ⟨#[]⟩, .bool false, .bool false, .slice none 0 0] 110 (0, 0))) {q : Addr} {t : ByteArray} {p : Int} (h1 : w.cell? ⟨q.block, q.off + 1, none⟩ = some (.string t)) (h2 : w.cell? ⟨q.block, q.off + 2, none⟩ = some (.int .i64 p)) : q.block ≠ r := by
  intro e
  rw [e, cell_of h] at h1 h2
  generalize q.off = o at h1 h2
  match o, h1, h2 with
  | 0, h1, _ => simp at h1
  | 1, h1, _ => simp at h1
  | 2, h1, _ => simp at h1
  | 3, _, h2 => simp at h2
  | 4, h1, _ => simp at h1
  | 5, h1, _ => simp at h1
  | 6, h1, _ => simp at h1
  | n + 7, h1, _ => simp at h1
set_option maxHeartbeats 4000000 in
theorem take4_any {W : World} {A : Option Addr} {l c : Nat} (hr : Row W TokOk 3 A l c) (hl : l ≤ 60) (w : World) (hb : Below W.heap.size W w) (a : Nat) (ha : a ≤ l) (en : Int) :
    Calls Try.prog 63 #[.slice A l c, .int .i64 a, .int .i64 en] w fun e w' => RetK l e ∧ Below w.heap.size w w' := by
  have HR := Lib.hid (hr.upto hb)
  clear hr hb W
  go_enter Try.func63, Try.ntmps63
  go_wp2_with fail
  obtain ⟨x, ex⟩ : ∃ x : Cx, x = ⟨137, w, w.heap.size + 1, A, l, c⟩ := ⟨_, rfl⟩
  have hg : w.heap.size + 1 = x.g := by rw [ex]
  have hx : x.ok := by
    rw [ex]
    exact ⟨HR.out, hl, Nat.le_succ _⟩
  have hxl : x.l = l := by rw [ex]
  have hxw : x.w0 = w := by rw [ex]
  obtain ⟨W2, hW2⟩ : ∃ W2, (w.alloc (.cells #[.int .i64 0, .bool false, .int .i64 0, .int .i64 0, .string ⟨#[]⟩, .bool false, .bool false, .slice none 0 0] 110)).alloc (.cells #[.slice A l c, .int .i64 a, .int .i64 en, .int .i64 0, .int .i64 0] 137) = W2 := ⟨_, rfl⟩
  have hne : w.heap.size ≠ x.g := by omega
  have H2 : Hid (x.at W2 a ∧ W2.heap[w.heap.size]? = some (.cells #[.int .i64 0, .bool false, .int .i64 0, .int .i64 0, .string ⟨#[]⟩, .bool false, .bool false, .slice none 0 0] 110 (0, 0))) := Lib.hid (by
    refine ⟨⟨en, 0, 0, ?_, by rw [hxl]; exact ha, ?_⟩, ?_⟩
    · rw [← hg, ← hW2, ex]
      have := heap_alloc_new (w.alloc (.cells #[.int .i64 0, .bool false, .int .i64 0, .int .i64 0, .string ⟨#[]⟩, .bool false, .bool false, .slice none 0 0] 110)) (.cells #[.slice A l c, .int .i64 a, .int .i64 en, .int .i64 0, .int .i64 0] 137)
      simpa using this
    · rw [hxw, ← hW2]
      exact ((Below.refl _ _).alloc (Nat.le_refl _) _).alloc (by simp) _
    · rw [← hW2]
      exact alloc_blk (heap_alloc_new w _))
  try rw [hW2]
  try rw [hg]
  clear hW2 hg HR ex
  refine ((both x hx 9 0 (by omega) (by omega)).1 W2 a H2.out.1).mono ?_
  rintro e w3 ⟨⟨y, rfl⟩, a3, la3, h3, k3⟩
  have H3 : Hid (x.at w3 a3 ∧ w3.heap[w.heap.size]? = some (.cells #[.int .i64 0, .bool false, .int .i64 0, .int .i64 0, .string ⟨#[]⟩, .bool false, .bool false, .slice none 0 0] 110 (0, 0))) := Lib.hid ⟨h3, k3.blk H2.out.2 hne⟩
  clear h3 k3
  go_upto_region 3 with fail
  obtain ⟨b5, hb5⟩ : ∃ b, w3.heap.size = b := ⟨_, rfl⟩
  have hb5g : b5 ≠ x.g := by have := H3.out.1.lt; omega
  have hb5r : b5 ≠ w.heap.size := by have := blk_in H3.out.2; omega
  have H4 : Hid (x.at (w3.alloc (.cells #[.int .i64 y.k, .bool y.b, .int .i64 y.m, .int .i64 y.s, .string y.t, .bool y.lo, .bool y.hi, .slice y.A y.n y.c] 110)) a3 ∧ (w3.alloc (.cells #[.int .i64 y.k, .bool y.b, .int .i64 y.m, .int .i64 y.s, .string y.t, .bool y.lo, .bool y.hi, .slice y.A y.n y.c] 110)).heap[w.heap.size]? = some (.cells #[.int .i64 0, .bool false, .int .i64 0, .int .i64 0, .string ⟨#[]⟩, .bool false, .bool false, .slice none 0 0] 110 (0, 0)) ∧ (w3.alloc (.cells #[.int .i64 y.k, .bool y.b, .int .i64 y.m, .int .i64 y.s, .string y.t, .bool y.lo, .bool y.hi, .slice y.A y.n y.c] 110)).heap[b5]? = some (.cells #[.int .i64 y.k, .bool y.b, .int .i64 y.m, .int .i64 y.s, .string y.t, .bool y.lo, .bool y.hi, .slice y.A y.n y.c] 110 (0, 0))) := Lib.hid ⟨H3.out.1.alloc _, alloc_blk H3.out.2, by rw [← hb5]; exact heap_alloc_new w3 _⟩
  try rw [hb5]
  generalize w3.alloc (.cells #[.int .i64 y.k, .bool y.b, .int .i64 y.m, .int .i64 y.s, .string y.t, .bool y.lo, .bool y.hi, .slice y.A y.n y.c] 110) = w4 at H4 ⊢
  clear hb5
  have HB4 : Hid (Below w.heap.size w w4) := Lib.hid (by have := H4.out.1.old; rwa [hxw] at this)
  obtain ⟨en4, er, po, hh4, -, c1, -, c3, c4, -, -, -⟩ := H4.out.1.cells
  clear hh4
  by_cases he : er = 0
  rotate_left
  · obtain ⟨d0, d1, d2, d3, d4, d5, d6, d7, df0, df1, df2, df3, df4, df5, df6, df7⟩ := cells8 H4.out.2.1
    go_wp2_with fail
    refine start_ (n := 14) (S := fun w' => w'.cell? ⟨x.g, 3, none⟩ = some (.int .i64 er) ∧ w'.cell? ⟨x.g, 4, none⟩ = some (.int .i64 po)) (ds := []) #[false, false, false, false, false, false, false, false, false, false, false, false, false, false] (by kernel_rfl) rfl rfl ⟨c3, c4⟩ (fun hHeld => ?_)
    refine pure_ (i := 0) (N := some 24) (v := ?_) (a' := ?_) #[true, false, false, false, false, false, false, false, false, false, false, false, false, false] rfl rfl (by kernel_rfl) (fun _ _ _ h => h) (Or.inl ⟨by rfl, ?_⟩) ?_ ?_
    rotate_left
    · intro w'
      go_simp
      with_reducible rfl
    rotate_left
    · simp only [Act.put, List.setIfInBounds_toArray, List.set_cons_zero, List.set_cons_succ, i64_w, i32_w]
      rfl
    refine pure_ (i := 1) (N := some 25) (v := ?_) (a' := ?_) #[true, true, false, false, false, false, false, false, false, false, false, false, false, false] rfl rfl (by kernel_rfl) (fun _ _ _ h => h) (Or.inl ⟨by rfl, ?_⟩) ?_ ?_
    rotate_left
    · intro w'
      go_simp
      with_reducible rfl
    rotate_left
    · simp only [Act.put, List.setIfInBounds_toArray, List.set_cons_zero, List.set_cons_succ, i64_w, i32_w]
      rfl
    refine pure_ (i := 2) (N := some 26) (v := ?_) (a' := ?_) #[true, true, true, false, false, false, false, false, false, false, false, false, false, false] rfl rfl (by kernel_rfl) (fun _ _ _ h => h) (Or.inl ⟨by rfl, ?_⟩) ?_ ?_
    rotate_left
    · intro w'
      go_simp
      with_reducible rfl
    rotate_left
    · simp only [Act.put, List.setIfInBounds_toArray, List.set_cons_zero, List.set_cons_succ, i64_w, i32_w]
      rfl
    refine pure_ (i := 3) (N := some 27) (v := ?_) (a' := ?_) #[true, true, true, true, false, false, false, false, false, false, false, false, false, false] rfl rfl (by kernel_rfl) (fun _ _ _ h => h) (Or.inl ⟨by rfl, ?_⟩) ?_ ?_
    rotate_left
    · intro w'
      go_simp
      with_reducible rfl
    rotate_left
    · simp only [Act.put, List.setIfInBounds_toArray, List.set_cons_zero, List.set_cons_succ, i64_w, i32_w]
      rfl
    refine pure_ (i := 4) (N := some 28) (v := ?_) (a' := ?_) #[true, true, true, true, true, false, false, false, false, false, false, false, false, false] rfl rfl (by kernel_rfl) (fun _ _ _ h => h) (Or.inl ⟨by rfl, ?_⟩) ?_ ?_
    rotate_left
    · intro w'
      go_simp
      with_reducible rfl
    rotate_left
    · simp only [Act.put, List.setIfInBounds_toArray, List.set_cons_zero, List.set_cons_succ, i64_w, i32_w]
      rfl
    refine pure_ (i := 6) (N := some 30) (v := ?_) (a' := ?_) #[true, true, true, true, true, false, true, false, false, false, false, false, false, false] rfl rfl (by kernel_rfl) (fun _ _ _ h => h) (Or.inl ⟨by rfl, ?_⟩) ?_ ?_
    rotate_left
    · intro w'
      go_simp
      with_reducible rfl
    rotate_left
    · simp only [Act.put, List.setIfInBounds_toArray, List.set_cons_zero, List.set_cons_succ, i64_w, i32_w]
      rfl
    refine pure_ (i := 7) (N := some 31) (v := ?_) (a' := ?_) #[true, true, true, true, true, false, true, true, false, false, false, false, false, false] rfl rfl (by kernel_rfl) (fun _ _ _ h => h) (Or.inl ⟨by rfl, ?_⟩) ?_ ?_
    rotate_left
    · intro w'
      go_simp
      with_reducible rfl
    rotate_left
    · simp only [Act.put, List.setIfInBounds_toArray, List.set_cons_zero, List.set_cons_succ, i64_w, i32_w]
      rfl
    refine pure_ (i := 8) (N := some 32) (v := ?_) (a' := ?_) #[true, true, true, true, true, false, true, true, true, false, false, false, false, false] rfl rfl (by kernel_rfl) (fun _ _ _ h => h) (Or.inl ⟨by rfl, ?_⟩) ?_ ?_
    rotate_left
    · intro w'
      go_simp
      with_reducible rfl
    rotate_left
    · simp only [Act.put, List.setIfInBounds_toArray, List.set_cons_zero, List.set_cons_succ, i64_w, i32_w]
      rfl
    refine take_ (i := 5) (N := some 29) (v := ?_) (a' := ?_) #[true, true, true, true, true, true, true, true, true, false, false, false, false, false] rfl rfl (by kernel_rfl) (fun _ _ _ h => h) (Or.inl ⟨by rfl, ?_⟩) hHeld ?_ ?_
    rotate_left
    · rintro w' ⟨s0, s1⟩
      go_simp
      with_reducible rfl
    rotate_left
    · simp only [Act.put, List.setIfInBounds_toArray, List.set_cons_zero, List.set_cons_succ, i64_w, i32_w]
      rfl
    refine take_ (i := 9) (N := some 33) (v := ?_) (a' := ?_) #[true, true, true, true, true, true, true, true, true, true, false, false, false, false] rfl rfl (by kernel_rfl) (fun _ _ _ h => h) (Or.inl ⟨by rfl, ?_⟩) hHeld ?_ ?_
    rotate_left
    · rintro w' ⟨s0, s1⟩
      go_simp
      with_reducible rfl
    rotate_left
    · simp only [Act.put, List.setIfInBounds_toArray, List.set_cons_zero, List.set_cons_succ, i64_w, i32_w]
      rfl
    refine one_ (i := 10) (N := none) #[true, true, true, true, true, true, true, true, true, true, true, false, false, false] rfl rfl (by kernel_rfl) (by decide) (fun K hK => ?_)
    refine skip_ (w1 := ?_) (by rfl) rfl ?_ ?_
    rotate_left
    · go_simp
      rfl
    generalize hw9 : World.setCell _ _ _ = w9
    have H9 : Hid (w9.heap[w.heap.size]? = some (.cells #[.int .i64 0, .bool false, .int .i64 0, .int .i64 0, .string ⟨#[]⟩, .bool false, .bool false, .slice none 0 0] 110 (0, 0)) ∧ Below w.heap.size w w9 ∧ w9.cell? ⟨x.g, 3, none⟩ = some (.int .i64 er) ∧ w9.cell? ⟨x.g, 4, none⟩ = some (.int .i64 po)) := Lib.hid (by rw [← hw9]; exact ⟨put8 (w := w4) H4.out.2.1 _ _ _ _ _ _ _ _, below_far8 (W := w4) HB4.out (Nat.le_refl _) _ _ _ _ _ _ _ _, (cell_far8 (Ne.symm hne) 3 _ _ _ _ _ _ _ _).trans c3, (cell_far8 (Ne.symm hne) 4 _ _ _ _ _ _ _ _).trans c4⟩)
    clear hw9
    refine hK.out _ _ ⟨H9.out.2.2.1, H9.out.2.2.2⟩ (fun hHeld => ?_)
    clear hK K
    refine pure_ (i := 11) (N := some 7) (v := ?_) (a' := ?_) #[true, true, true, true, true, true, true, true, true, true, true, true, false, false] rfl rfl (by kernel_rfl) (fun _ _ _ h => h) (Or.inl ⟨by rfl, ?_⟩) ?_ ?_
    rotate_left
    · intro w'
      go_simp
      with_reducible rfl
    rotate_left
    · simp only [Act.put, List.setIfInBounds_toArray, List.set_cons_zero, List.set_cons_succ, i64_w, i32_w]
      rfl
    refine pure_ (i := 12) (N := some 8) (v := ?_) (a' := ?_) #[true, true, true, true, true, true, true, true, true, true, true, true, true, false] rfl rfl (by kernel_rfl) (fun _ _ _ h => h) (Or.inl ⟨by rfl, ?_⟩) ?_ ?_
    rotate_left
    · intro w'
      go_simp
      with_reducible rfl
    rotate_left
    · simp only [Act.put, List.setIfInBounds_toArray, List.set_cons_zero, List.set_cons_succ, i64_w, i32_w]
      rfl
    refine pure_ (i := 13) (N := some 9) (v := ?_) (a' := ?_) #[true, true, true, true, true, true, true, true, true, true, true, true, true, true] rfl rfl (by kernel_rfl) (fun _ _ _ h => h) (Or.inl ⟨by rfl, ?_⟩) ?_ ?_
    rotate_left
    · intro w'
      go_simp
      with_reducible rfl
    rotate_left
    · simp only [Act.put, List.setIfInBounds_toArray, List.set_cons_zero, List.set_cons_succ, i64_w, i32_w]
      rfl
    refine done_ (by kernel_rfl) ?_

    go_wp2_with fail
    refine bodyPost_ret (results_cttt rfl _ _ w.heap.size 110 _ (0, 0) _ rfl H9.out.1 Try.underlying110 rfl (by kernel_rfl)) rfl ?_
    exact ⟨⟨⟨0, false, 0, 0, ⟨#[]⟩, false, false, none, 0, 0⟩, _, _, _, rfl, fun h => absurd h he⟩, H9.out.2.1.drew⟩
  · subst he
    obtain ⟨d0, d1, d2, d3, d4, d5, d6, d7, df0, df1, df2, df3, df4, df5, df6, df7⟩ := cells8 H4.out.2.1
    obtain ⟨v0, v1, v2, v3, v4, v5, v6, v7, vf0, vf1, vf2, vf3, vf4, vf5, vf6, vf7⟩ := cells8 H4.out.2.2
    go_wp2_with fail
    refine start_ (n := 9) (S := fun w' => w'.cell? ⟨b5, 0, none⟩ = some (.int .i64 y.k) ∧ w'.cell? ⟨b5, 1, none⟩ = some (.bool y.b) ∧ w'.cell? ⟨b5, 2, none⟩ = some (.int .i64 y.m) ∧ w'.cell? ⟨b5, 3, none⟩ = some (.int .i64 y.s) ∧ w'.cell? ⟨b5, 4, none⟩ = some (.string y.t) ∧ w'.cell? ⟨b5, 5, none⟩ = some (.bool y.lo) ∧ w'.cell? ⟨b5, 6, none⟩ = some (.bool y.hi) ∧ w'.cell? ⟨b5, 7, none⟩ = some (.slice y.A y.n y.c) ∧ w'.cell? ⟨x.g, 1, none⟩ = some (.int .i64 a3)) (ds := []) #[false, false, false, false, false, false, false, false, false] (by kernel_rfl) rfl rfl ⟨v0, v1, v2, v3, v4, v5, v6, v7, c1⟩ (fun hHeld => ?_)
    refine pure_ (i := 1) (N := some 35) (v := ?_) (a' := ?_) #[false, true, false, false, false, false, false, false, false] rfl rfl (by kernel_rfl) (fun _ _ _ h => h) (Or.inl ⟨by rfl, ?_⟩) ?_ ?_
    rotate_left
    · intro w'
      go_simp
      with_reducible rfl
    rotate_left
    · simp only [Act.put, List.setIfInBounds_toArray, List.set_cons_zero, List.set_cons_succ, i64_w, i32_w]
      rfl
    refine pure_ (i := 2) (N := some 36) (v := ?_) (a' := ?_) #[false, true, true, false, false, false, false, false, false] rfl rfl (by kernel_rfl) (fun _ _ _ h => h) (Or.inl ⟨by rfl, ?_⟩) ?_ ?_
    rotate_left
    · intro w'
      go_simp
      with_reducible rfl
    rotate_left
    · simp only [Act.put, List.setIfInBounds_toArray, List.set_cons_zero, List.set_cons_succ, i64_w, i32_w]
      rfl
    refine pure_ (i := 3) (N := some 37) (v := ?_) (a' := ?_) #[false, true, true, true, false, false, false, false, false] rfl rfl (by kernel_rfl) (fun _ _ _ h => h) (Or.inl ⟨by rfl, ?_⟩) ?_ ?_
    rotate_left
    · intro w'
      go_simp
      with_reducible rfl
    rotate_left
    · simp only [Act.put, List.setIfInBounds_toArray, List.set_cons_zero, List.set_cons_succ, i64_w, i32_w]
      rfl
    refine take_ (i := 0) (N := some 34) (v := ?_) (a' := ?_) #[true, true, true, true, false, false, false, false, false] rfl rfl (by kernel_rfl) (fun _ _ _ h => h) (Or.inl ⟨by rfl, ?_⟩) hHeld ?_ ?_
    rotate_left
    · rintro w' ⟨s0, s1, s2, s3, s4, s5, s6, s7, s8⟩
      go_simp
      with_reducible rfl
    rotate_left
    · simp only [Act.put, List.setIfInBounds_toArray, List.set_cons_zero, List.set_cons_succ, i64_w, i32_w]
      rfl
    refine take_ (i := 4) (N := some 38) (v := ?_) (a' := ?_) #[true, true, true, true, true, false, false, false, false] rfl rfl (by kernel_rfl) (fun _ _ _ h => h) (Or.inl ⟨by rfl, ?_⟩) hHeld ?_ ?_
    rotate_left
    · rintro w' ⟨s0, s1, s2, s3, s4, s5, s6, s7, s8⟩
      go_simp
      with_reducible rfl
    rotate_left
    · simp only [Act.put, List.setIfInBounds_toArray, List.set_cons_zero, List.set_cons_succ, i64_w, i32_w]
      rfl
    refine one_ (i := 5) (N := none) #[true, true, true, true, true, true, false, false, false] rfl rfl (by kernel_rfl) (by decide) (fun K hK => ?_)
    refine skip_ (w1 := ?_) (by rfl) rfl ?_ ?_
    rotate_left
    · go_simp
      rfl
    generalize hw9 : World.setCell _ _ _ = w9
    have H9 : Hid (w9.heap[w.heap.size]? = some (.cells #[.int .i64 y.k, .bool y.b, .int .i64 y.m, .int .i64 y.s, .string y.t, .bool y.lo, .bool y.hi, .slice y.A y.n y.c] 110 (0, 0)) ∧ Below w.heap.size w w9 ∧ w9.cell? ⟨b5, 0, none⟩ = some (.int .i64 y.k) ∧ w9.cell? ⟨b5, 1, none⟩ = some (.bool y.b) ∧ w9.cell? ⟨b5, 2, none⟩ = some (.int .i64 y.m) ∧ w9.cell? ⟨b5, 3, none⟩ = some (.int .i64 y.s) ∧ w9.cell? ⟨b5, 4, none⟩ = some (.string y.t) ∧ w9.cell? ⟨b5, 5, none⟩ = some (.bool y.lo) ∧ w9.cell? ⟨b5, 6, none⟩ = some (.bool y.hi) ∧ w9.cell? ⟨b5, 7, none⟩ = some (.slice y.A y.n y.c) ∧ w9.cell? ⟨x.g, 1, none⟩ = some (.int .i64 a3)) := Lib.hid (by rw [← hw9]; exact ⟨put8 (w := w4) H4.out.2.1 _ _ _ _ _ _ _ _, below_far8 (W := w4) HB4.out (Nat.le_refl _) _ _ _ _ _ _ _ _, (cell_far8 hb5r 0 _ _ _ _ _ _ _ _).trans v0, (cell_far8 hb5r 1 _ _ _ _ _ _ _ _).trans v1, (cell_far8 hb5r 2 _ _ _ _ _ _ _ _).trans v2, (cell_far8 hb5r 3 _ _ _ _ _ _ _ _).trans v3, (cell_far8 hb5r 4 _ _ _ _ _ _ _ _).trans v4, (cell_far8 hb5r 5 _ _ _ _ _ _ _ _).trans v5, (cell_far8 hb5r 6 _ _ _ _ _ _ _ _).trans v6, (cell_far8 hb5r 7 _ _ _ _ _ _ _ _).trans v7, (cell_far8 (Ne.symm hne) 1 _ _ _ _ _ _ _ _).trans c1⟩)
    clear hw9
    refine hK.out _ _ ⟨H9.out.2.2.1, H9.out.2.2.2.1, H9.out.2.2.2.2.1, H9.out.2.2.2.2.2.1, H9.out.2.2.2.2.2.2.1, H9.out.2.2.2.2.2.2.2.1, H9.out.2.2.2.2.2.2.2.2.1, H9.out.2.2.2.2.2.2.2.2.2.1, H9.out.2.2.2.2.2.2.2.2.2.2⟩ (fun hHeld => ?_)
    clear hK K
    refine pure_ (i := 6) (N := some 7) (v := ?_) (a' := ?_) #[true, true, true, true, true, true, true, false, false] rfl rfl (by kernel_rfl) (fun _ _ _ h => h) (Or.inl ⟨by rfl, ?_⟩) ?_ ?_
    rotate_left
    · intro w'
      go_simp
      with_reducible rfl
    rotate_left
    · simp only [Act.put, List.setIfInBounds_toArray, List.set_cons_zero, List.set_cons_succ, i64_w, i32_w]
      rfl
    refine pure_ (i := 7) (N := some 8) (v := ?_) (a' := ?_) #[true, true, true, true, true, true, true, true, false] rfl rfl (by kernel_rfl) (fun _ _ _ h => h) (Or.inl ⟨by rfl, ?_⟩) ?_ ?_
    rotate_left
    · intro w'
      go_simp
      with_reducible rfl
    rotate_left
    · simp only [Act.put, List.setIfInBounds_toArray, List.set_cons_zero, List.set_cons_succ, i64_w, i32_w]
      rfl
    refine pure_ (i := 8) (N := some 9) (v := ?_) (a' := ?_) #[true, true, true, true, true, true, true, true, true] rfl rfl (by kernel_rfl) (fun _ _ _ h => h) (Or.inl ⟨by rfl, ?_⟩) ?_ ?_
    rotate_left
    · intro w'
      go_simp
      with_reducible rfl
    rotate_left
    · simp only [Act.put, List.setIfInBounds_toArray, List.set_cons_zero, List.set_cons_succ, i64_w, i32_w]
      rfl
    refine done_ (by kernel_rfl) ?_

    go_wp2_with fail
    refine bodyPost_ret (results_cttt rfl _ _ w.heap.size 110 _ (0, 0) _ rfl H9.out.1 Try.underlying110 rfl (by kernel_rfl)) rfl ?_
    have hal := H4.out.1.le
    exact ⟨⟨y, _, _, _, rfl, fun _ => ⟨a3, rfl, by omega⟩⟩, H9.out.2.1.drew⟩
set_option maxHeartbeats 4000000 in
theorem parse_any (s : ByteArray) (w : World) : Calls Try.prog 53 #[.string s] w fun e w' => RetM e ∧ Below w.heap.size w w' := by
  obtain ⟨W1, hW1⟩ : ∃ W1, w.alloc (.cells #[.int .i64 0, .bool false, .int .i64 0, .int .i64 0, .string ⟨#[]⟩, .bool false, .bool false, .slice none 0 0] 110) = W1 := ⟨_, rfl⟩
  have H1 : Hid (Below w.heap.size w W1 ∧ W1.heap[w.heap.size]? = some (.cells #[.int .i64 0, .bool false, .int .i64 0, .int .i64 0, .string ⟨#[]⟩, .bool false, .bool false, .slice none 0 0] 110 (0, 0))) := Lib.hid (by rw [← hW1]; exact ⟨(Below.refl _ _).alloc (Nat.le_refl _) _, heap_alloc_new w _⟩)
  have hlt1 : w.heap.size < W1.heap.size := (Array.getElem?_eq_some_iff.1 H1.out.2).1
  go_enter Try.func53, Try.ntmps53
  go_wp2_with fail
  refine (lex_any s W1).mono ?_
  rintro e w2 ⟨⟨A, l, c, n, f, rfl, hl, hr⟩, hb2⟩
  have HR := Lib.hid hr
  have H2 : Hid (Below w.heap.size w w2 ∧ w2.heap[w.heap.size]? = some (.cells #[.int .i64 0, .bool false, .int .i64 0, .int .i64 0, .string ⟨#[]⟩, .bool false, .bool false, .slice none 0 0] 110 (0, 0))) := Lib.hid ⟨H1.out.1.trans (hb2.mono (Nat.le_of_lt hlt1)), (hb2.block _ hlt1).trans H1.out.2⟩
  have hlt2 : w.heap.size < w2.heap.size := blk_in H2.out.2
  clear hb2 hr hW1 H1 hlt1
  have hle := Nat.le_refl w.heap.size
  by_cases hf : f = 0
  rotate_left
  · obtain ⟨d0, d1, d2, d3, d4, d5, d6, d7, df0, df1, df2, df3, df4, df5, df6, df7⟩ := cells8 H2.out.2
    go_wp2_with fail
    refine bodyPost_ret (results_ctt rfl _ _ w.heap.size 110 _ (0, 0) _ rfl (put8 (w := w2) H2.out.2 _ _ _ _ _ _ _ _) Try.underlying110 rfl (by kernel_rfl)) rfl ?_
    exact ⟨⟨⟨_, _, _, _, _, _, _, _, _, _⟩, _, _, rfl⟩, below_far8 H2.out.1 (Nat.le_refl _) _ _ _ _ _ _ _ _⟩
  subst hf
  go_wp2_with fail
  refine (take4_any HR.out hl w2 (Below.refl _ _) 0 (Nat.zero_le _) n).mono ?_
  rintro e w3 ⟨⟨y, n3, p3, f3, rfl, hn⟩, hb3⟩
  have H3 : Hid (Below w.heap.size w w3 ∧ w3.heap[w.heap.size]? = some (.cells #[.int .i64 0, .bool false, .int .i64 0, .int .i64 0, .string ⟨#[]⟩, .bool false, .bool false, .slice none 0 0] 110 (0, 0)) ∧ Below w2.heap.size w2 w3) := Lib.hid ⟨H2.out.1.trans (hb3.mono H2.out.1.size), (hb3.block _ hlt2).trans H2.out.2, hb3⟩
  have HN := Lib.hid hn
  clear hb3 hn H2
  go_upto_region 5 with fail
  obtain ⟨b5, hb5⟩ : ∃ b, w3.heap.size = b := ⟨_, rfl⟩
  have hb5r : b5 ≠ w.heap.size := by have := blk_in H3.out.2.1; omega
  have H4 : Hid (Below w.heap.size w (w3.alloc (.cells #[.int .i64 y.k, .bool y.b, .int .i64 y.m, .int .i64 y.s, .string y.t, .bool y.lo, .bool y.hi, .slice y.A y.n y.c] 110)) ∧ (w3.alloc (.cells #[.int .i64 y.k, .bool y.b, .int .i64 y.m, .int .i64 y.s, .string y.t, .bool y.lo, .bool y.hi, .slice y.A y.n y.c] 110)).heap[w.heap.size]? = some (.cells #[.int .i64 0, .bool false, .int .i64 0, .int .i64 0, .string ⟨#[]⟩, .bool false, .bool false, .slice none 0 0] 110 (0, 0)) ∧ Below w2.heap.size w2 (w3.alloc (.cells #[.int .i64 y.k, .bool y.b, .int .i64 y.m, .int .i64 y.s, .string y.t, .bool y.lo, .bool y.hi, .slice y.A y.n y.c] 110)) ∧ (w3.alloc (.cells #[.int .i64 y.k, .bool y.b, .int .i64 y.m, .int .i64 y.s, .string y.t, .bool y.lo, .bool y.hi, .slice y.A y.n y.c] 110)).heap[b5]? = some (.cells #[.int .i64 y.k, .bool y.b, .int .i64 y.m, .int .i64 y.s, .string y.t, .bool y.lo, .bool y.hi, .slice y.A y.n y.c] 110 (0, 0))) := Lib.hid ⟨H3.out.1.alloc H3.out.1.size _, alloc_blk H3.out.2.1, H3.out.2.2.alloc H3.out.2.2.size _, by rw [← hb5]; exact heap_alloc_new w3 _⟩
  try rw [hb5]
  generalize w3.alloc (.cells #[.int .i64 y.k, .bool y.b, .int .i64 y.m, .int .i64 y.s, .string y.t, .bool y.lo, .bool y.hi, .slice y.A y.n y.c] 110) = w4 at H4 ⊢
  clear hb5 H3
  by_cases hf : f3 = 0
  rotate_left
  · obtain ⟨d0, d1, d2, d3, d4, d5, d6, d7, df0, df1, df2, df3, df4, df5, df6, df7⟩ := cells8 H4.out.2.1
    go_wp2_with fail
    refine bodyPost_ret (results_ctt rfl _ _ w.heap.size 110 _ (0, 0) _ rfl (put8 (w := w4) H4.out.2.1 _ _ _ _ _ _ _ _) Try.underlying110 rfl (by kernel_rfl)) rfl ?_
    exact ⟨⟨⟨_, _, _, _, _, _, _, _, _, _⟩, _, _, rfl⟩, below_far8 H4.out.1 (Nat.le_refl _) _ _ _ _ _ _ _ _⟩
  obtain ⟨a, ea, ha⟩ := HN.out hf
  subst ea
  subst hf
  by_cases hal : a < l
  · obtain ⟨ad, cs, eA, ⟨k, t, q, rfl, ht⟩, hc⟩ := HR.out.get hal
    have t1 : w4.cell? ⟨(ad.add (a * 3)).block, (ad.add (a * 3)).off + 1, none⟩ = some (.string t) := by rw [← add_fld _ _ 1 (by omega)]; exact hc w4 H4.out.2.2.1 1 _ rfl
    have t2 : w4.cell? ⟨(ad.add (a * 3)).block, (ad.add (a * 3)).off + 2, none⟩ = some (.int .i64 q) := by rw [← add_fld _ _ 2 (by omega)]; exact hc w4 H4.out.2.2.1 2 _ rfl
    have hnb := not_blank H4.out.2.1 t1 t2
    subst eA
    have hlc := HR.out.le
    clear t1 hc
    obtain ⟨d0, d1, d2, d3, d4, d5, d6, d7, df0, df1, df2, df3, df4, df5, df6, df7⟩ := cells8 H4.out.2.1
    go_wp2_with fail
    refine start_ (n := 9) (S := fun w' => w'.cell? ⟨(ad.add (a * 3)).block, (ad.add (a * 3)).off + 2, none⟩ = some (.int .i64 q)) (ds := []) #[false, false, false, false, false, false, false, false, false] (by kernel_rfl) rfl rfl (t2) (fun hHeld => ?_)
    refine pure_ (i := 0) (N := some 42) (v := ?_) (a' := ?_) #[true, false, false, false, false, false, false, false, false] rfl rfl (by kernel_rfl) (fun _ _ _ h => h) (Or.inl ⟨by rfl, ?_⟩) ?_ ?_
    rotate_left
    · intro w'
      go_simp
      with_reducible rfl
    rotate_left
    · simp only [Act.put, List.setIfInBounds_toArray, List.set_cons_zero, List.set_cons_succ, i64_w, i32_w]
      rfl
    refine pure_ (i := 1) (N := some 43) (v := ?_) (a' := ?_) #[true, true, false, false, false, false, false, false, false] rfl rfl (by kernel_rfl) (fun _ _ _ h => h) (Or.inl ⟨by rfl, ?_⟩) ?_ ?_
    rotate_left
    · intro w'
      go_simp
      with_reducible rfl
    rotate_left
    · simp only [Act.put, List.setIfInBounds_toArray, List.set_cons_zero, List.set_cons_succ, i64_w, i32_w]
      rfl
    refine pure_ (i := 2) (N := some 44) (v := ?_) (a' := ?_) #[true, true, true, false, false, false, false, false, false] rfl rfl (by kernel_rfl) (fun _ _ _ h => h) (Or.inl ⟨by rfl, ?_⟩) ?_ ?_
    rotate_left
    · intro w'
      go_simp
      with_reducible rfl
    rotate_left
    · simp only [Act.put, List.setIfInBounds_toArray, List.set_cons_zero, List.set_cons_succ, i64_w, i32_w]
      rfl
    refine pure_ (i := 3) (N := some 45) (v := ?_) (a' := ?_) #[true, true, true, true, false, false, false, false, false] rfl rfl (by kernel_rfl) (fun _ _ _ h => h) (Or.inl ⟨by rfl, ?_⟩) ?_ ?_
    rotate_left
    · intro w'
      go_simp
      with_reducible rfl
    rotate_left
    · simp only [Act.put, List.setIfInBounds_toArray, List.set_cons_zero, List.set_cons_succ, i64_w, i32_w]
      rfl
    refine pure_ (i := 4) (N := some 46) (v := ?_) (a' := ?_) #[true, true, true, true, true, false, false, false, false] rfl rfl (by kernel_rfl) (fun _ _ _ h => h) (Or.inl ⟨by rfl, ?_⟩) ?_ ?_
    rotate_left
    · intro w'
      go_simp
      with_reducible rfl
    rotate_left
    · simp only [Act.put, List.setIfInBounds_toArray, List.set_cons_zero, List.set_cons_succ, i64_w, i32_w]
      rfl
    refine take_ (i := 5) (N := some 47) (v := ?_) (a' := ?_) #[true, true, true, true, true, true, false, false, false] rfl rfl (by kernel_rfl) (fun _ _ _ h => h) (Or.inl ⟨by rfl, ?_⟩) hHeld ?_ ?_
    rotate_left
    · intro w' s0
      go_simp
      with_reducible rfl
    rotate_left
    · simp only [Act.put, List.setIfInBounds_toArray, List.set_cons_zero, List.set_cons_succ, i64_w, i32_w]
      rfl
    refine one_ (i := 6) (N := none) #[true, true, true, true, true, true, true, false, false] rfl rfl (by kernel_rfl) (by decide) (fun K hK => ?_)
    refine skip_ (w1 := ?_) (by rfl) rfl ?_ ?_
    rotate_left
    · go_simp
      rfl
    generalize hw9 : World.setCell _ _ _ = w9
    have H9 : Hid (w9.heap[w.heap.size]? = some (.cells #[.int .i64 0, .bool false, .int .i64 0, .int .i64 0, .string ⟨#[]⟩, .bool false, .bool false, .slice none 0 0] 110 (0, 0)) ∧ Below w.heap.size w w9 ∧ w9.cell? ⟨(ad.add (a * 3)).block, (ad.add (a * 3)).off + 2, none⟩ = some (.int .i64 q)) := Lib.hid (by rw [← hw9]; exact ⟨put8 (w := w4) H4.out.2.1 _ _ _ _ _ _ _ _, below_far8 (W := w4) H4.out.1 (Nat.le_refl _) _ _ _ _ _ _ _ _, (cell_far8 hnb _ _ _ _ _ _ _ _ _).trans t2⟩)
    clear hw9
    refine hK.out _ _ (H9.out.2.2) (fun hHeld => ?_)
    clear hK K
    refine pure_ (i := 7) (N := some 3) (v := ?_) (a' := ?_) #[true, true, true, true, true, true, true, true, false] rfl rfl (by kernel_rfl) (fun _ _ _ h => h) (Or.inl ⟨by rfl, ?_⟩) ?_ ?_
    rotate_left
    · intro w'
      go_simp
      with_reducible rfl
    rotate_left
    · simp only [Act.put, List.setIfInBounds_toArray, List.set_cons_zero, List.set_cons_succ, i64_w, i32_w]
      rfl
    refine pure_ (i := 8) (N := some 4) (v := ?_) (a' := ?_) #[true, true, true, true, true, true, true, true, true] rfl rfl (by kernel_rfl) (fun _ _ _ h => h) (Or.inl ⟨by rfl, ?_⟩) ?_ ?_
    rotate_left
    · intro w'
      go_simp
      with_reducible rfl
    rotate_left
    · simp only [Act.put, List.setIfInBounds_toArray, List.set_cons_zero, List.set_cons_succ, i64_w, i32_w]
      rfl
    refine done_ (by kernel_rfl) ?_

    go_wp2_with fail
    refine bodyPost_ret (results_ctt rfl _ _ w.heap.size 110 _ (0, 0) _ rfl H9.out.1 Try.underlying110 rfl (by kernel_rfl)) rfl ?_
    exact ⟨⟨⟨0, false, 0, 0, ⟨#[]⟩, false, false, none, 0, 0⟩, _, _, rfl⟩, H9.out.2.1.drew⟩
  · obtain ⟨d0, d1, d2, d3, d4, d5, d6, d7, df0, df1, df2, df3, df4, df5, df6, df7⟩ := cells8 H4.out.2.1
    obtain ⟨v0, v1, v2, v3, v4, v5, v6, v7, vf0, vf1, vf2, vf3, vf4, vf5, vf6, vf7⟩ := cells8 H4.out.2.2.2
    go_wp2_with fail
    refine bodyPost_ret (results_ctt rfl _ _ w.heap.size 110 _ (0, 0) _ rfl (put8 (w := w4) H4.out.2.1 _ _ _ _ _ _ _ _) Try.underlying110 rfl (by kernel_rfl)) rfl ?_
    exact ⟨⟨⟨_, _, _, _, _, _, _, _, _, _⟩, _, _, rfl⟩, below_far8 H4.out.1 (Nat.le_refl _) _ _ _ _ _ _ _ _⟩
end Go.Proofs.Ytaddhackggbdkaa
/-! The reader of a cell's tests, its smallest steps walked; condition: the tokens lie in an elder world. -/
namespace Go.Proofs.Ytaddhackggbdkaa
open Go.RowKit Go.Proofs.YtaddhackggbdkaaW.PrintLast
set_option maxRecDepth 100000
set_option linter.unusedSimpArgs false
theorem here7_any (x : Cx) (hx : x.ok) (w : World) (a : Nat) (h : x.at w a) : Calls Try.prog 85 #[.pointer (some ⟨x.g, 0, none⟩)] w fun e w' => RetI e ∧ Below w.heap.size w w' := by
  have HX := Lib.hid h
  obtain ⟨en, er, po, hh, c0, c1, c2, c3, c4, -, -, -⟩ := h.cells
  clear hh h
  by_cases hl : a < x.l
  · obtain ⟨ad, k, t, p, e, ht, d0, d1, d2⟩ := HX.out.tok hx hl
    rw [e] at c0
    go_enter Try.func85, Try.ntmps85
    go_wp2_with fail
    go_quiet (fail)
    have hb3 := below_drewN (Below.refl w.heap.size w) nq
    replace c0 : (w.drewN nq).cell? _ = _ := c0
    replace c1 : (w.drewN nq).cell? _ = _ := c1
    replace d2 : (w.drewN nq).cell? _ = _ := d2
    generalize w.drewN nq = w3 at hb3 c0 c1 d2 ⊢
    go_wp2_with fail
    go_quiet (fail)
    have hb4 := below_drewN hb3 nq
    generalize World.drewN _ _ = w4 at hb4 ⊢
    go_wp2_with fail
    go_ret
    exact ⟨retI _, hb4⟩
  · go_enter Try.func85, Try.ntmps85
    go_wp2_with fail
    go_quiet (fail)
    have hb3 := below_drewN (Below.refl w.heap.size w) nq
    replace c2 : (w.drewN nq).cell? _ = _ := c2
    generalize w.drewN nq = w3 at hb3 c2 ⊢
    go_wp2_with fail
    go_ret
    exact ⟨retI _, hb3⟩
theorem fail7_any (x : Cx) (hx : x.ok) (w : World) (a : Nat) (n : Int) (h : x.at w a) : Calls Try.prog 76 #[.pointer (some ⟨x.g, 0, none⟩), .int .i64 n] w fun e w' => e = .returned (.tuple #[]) ∧ x.at w' a ∧ x.kp w w' ∧ (n ≠ 0 → ∃ er, w'.cell? ⟨x.g, 3, none⟩ = some (.int .i64 er) ∧ er ≠ 0) := by
  have HX := Lib.hid h
  obtain ⟨en, er, po, hh, c0, c1, c2, c3, c4, f1, f3, f4⟩ := h.cells
  clear hh h
  by_cases he : er = 0
  · subst he
    go_enter Try.func76, Try.ntmps76
    go_wp2_with fail
    refine (here7_any x hx w a HX.out).mono ?_
    rintro e w2 ⟨⟨z, rfl⟩, hb2⟩
    have HX2 := Lib.hid (HX.out.below hb2)
    have HB2 := Lib.hid hb2
    obtain ⟨en, er, po, hh, c0, c1, c2, c3, c4, f1, f3, f4⟩ := HX2.out.cells
    clear hb2 hh
    go_wp2_with fail
    go_end0
    refine ⟨rfl, (HX2.out.set3 hx _).set4 hx _, ((Cx.kp.of_below HB2.out).set _ _).set _ _, fun hn => ⟨n, ?_, hn⟩⟩
    obtain ⟨_, _, _, hh, _⟩ := HX2.out.cells
    have h1 := blk_set (blk_set hh 3 (.int .i64 n)) 4 (.int .i64 z)
    have h2 := cell_of h1 3
    simpa using h2
  · go_enter Try.func76, Try.ntmps76
    go_wp2_with fail
    go_end0
    exact ⟨rfl, HX.out, Cx.kp.refl _ _, fun _ => ⟨er, c3, he⟩⟩
set_option maxHeartbeats 2000000 in
theorem take7_any (x : Cx) (hx : x.ok) (w : World) (a b n : Nat) (h : x.at w a) (hb : b ≠ x.g) (hn : n ≤ 100) (hl : ∀ i, i < n → ∃ s, w.cell? ⟨b, i, none⟩ = some (.string s)) :
    Calls Try.prog 75 #[.pointer (some ⟨x.g, 0, none⟩), .slice (some ⟨b, 0, none⟩) n n] w fun e w' => x.tk w a e w' := by
  have HX := Lib.hid h
  have HL := Lib.hid hl
  have hlen := hx.len
  clear h hl
  go_enter Try.func75, Try.ntmps75
  go_wp2_with fail
  go_loopg [5] n (fun g i wr => ∃ j : Nat, j ≤ n ∧ g + j = n ∧ i = .int .i64 j ∧ Below w.heap.size w wr)
  case atStart => exact ⟨0, Nat.zero_le _, rfl, rfl, Below.refl _ _⟩
  case round =>
    obtain ⟨j, hj, hg, rfl, hbr⟩ := hrel
    have HB := Lib.hid hbr
    clear hbr
    obtain ⟨en, er, po, hh, c0, c1, -, c3, -, -, -, -⟩ := (HX.out.below HB.out).cells
    clear hh
    have HQ : Hid (∀ n, Below w.heap.size w (wr.drewN n)) := Lib.hid fun n => below_drewN HB.out n
    by_cases hlt : j < n
    · have hlt' : (j : Int) < (n : Int) := by omega
      by_cases he : er = 0
      · subst he
        by_cases hal : a < x.l
        · obtain ⟨s, hs⟩ := HL.out j hlt
          have hsb := lt_of_cell hs
          have c := cell_below HB.out hsb hs
          obtain ⟨ad, k, t, p, e, ht, d0, d1, d2⟩ := (HX.out.below HB.out).tok hx hal
          rw [e] at c0
          clear hs d2
          go_wp2_with fail
          go_quiet (fail)
          have HB3 := Lib.hid (HQ.out nq)
          replace c0 : (wr.drewN nq).cell? _ = _ := c0
          replace c1 : (wr.drewN nq).cell? _ = _ := c1
          replace d0 : (wr.drewN nq).cell? _ = _ := d0
          replace d1 : (wr.drewN nq).cell? _ = _ := d1
          replace c : (wr.drewN nq).cell? _ = _ := c
          generalize wr.drewN nq = w3 at HB3 c0 c1 d0 d1 c ⊢
          clear HQ c3
          have HQ : Hid (∀ n, Below w.heap.size w (w3.drewN n)) := Lib.hid fun n => below_drewN HB3.out n
          have HC : Hid (w3.cell? ⟨b, j, none⟩ = some (.string s)) := Lib.hid c
          by_cases hk : k = 4
          · by_cases hts : (t.toList == s.toList) = true
            · go_wp2_with fail
              go_quiet (fail)
              have HB4 := Lib.hid (HQ.out nq)
              clear c0 c1 d0 d1 c
              have c : (w3.drewN nq).cell? ⟨b, j, none⟩ = _ := HC.out
              generalize w3.drewN nq = w4 at HB4 c ⊢
              obtain ⟨en, er, po, hh, -, c1, -, -, -, f1, -, -⟩ := (HX.out.below HB4.out).cells
              have c3 : ∀ u, (w4.setCell ⟨x.g, 1, none⟩ u).cell? ⟨b, j, none⟩ = some (.string s) := fun u => by
                rw [World.cell?_of_block (w := w4) (set_other w4 _ u b hb)]
                exact c
              clear hh
              go_wp2_with fail
              go_ret
              refine ⟨s, a + 1, rfl, .inr rfl, ?_, (Cx.kp.of_below HB4.out).set _ _⟩
              exact (HX.out.below HB4.out).set1 hx (a + 1) (by omega)
            · have hts' : (t.toList == s.toList) = false := by simpa using hts
              clear hts
              go_wp2_with fail
              go_quiet (fail)
              have HB4 := Lib.hid (HQ.out nq)
              generalize w3.drewN nq = w4 at HB4 ⊢
              clear hts'
              go_wp2_with fail
              go_roundg (n - (j + 1))
              case rel => exact ⟨j + 1, by omega, by omega, by first | rfl | rw [w64 (by omega) (by omega)], HB4.out⟩
              case measure => omega
          · go_wp2_with fail
            go_quiet (fail)
            have HB4 := Lib.hid (HQ.out nq)
            generalize w3.drewN nq = w4 at HB4 ⊢
            clear hk
            go_wp2_with fail
            go_roundg (n - (j + 1))
            case rel => exact ⟨j + 1, by omega, by omega, by first | rfl | rw [w64 (by omega) (by omega)], HB4.out⟩
            case measure => omega
        · go_wp2_with fail
          go_quiet (fail)
          have HB4 := Lib.hid (HQ.out nq)
          generalize wr.drewN nq = w4 at HB4 ⊢
          go_wp2_with fail
          go_ret
          exact ⟨_, a, rfl, .inl ⟨rfl, rfl⟩, HX.out.below HB4.out, Cx.kp.of_below HB4.out⟩
      · go_wp2_with fail
        go_quiet (fail)
        have HB4 := Lib.hid (HQ.out nq)
        generalize wr.drewN nq = w4 at HB4 ⊢
        go_wp2_with fail
        go_ret
        exact ⟨_, a, rfl, .inl ⟨rfl, rfl⟩, HX.out.below HB4.out, Cx.kp.of_below HB4.out⟩
    · go_wp2_with fail
      go_quiet (fail)
      have HB4 := Lib.hid (HQ.out nq)
      generalize wr.drewN nq = w4 at HB4 ⊢
      go_wp2_with fail
      go_ret
      exact ⟨_, a, rfl, .inl ⟨rfl, rfl⟩, HX.out.below HB4.out, Cx.kp.of_below HB4.out⟩
theorem take7_lit (x : Cx) (hx : x.ok) (w : World) (a : Nat) (h : x.at w a) (ss : List ByteArray) (h100 : ss.length ≤ 100) :
    Calls Try.prog 75 #[.pointer (some ⟨x.g, 0, none⟩), .slice (some ⟨w.heap.size, 0, none⟩) ss.length ss.length] (w.alloc (.cells (ss.map Value.string).toArray 9)) fun e w' => x.tk w a e w' := by
  obtain ⟨h1, h2, h3⟩ := lit_cells x w a h (ss.map Value.string).toArray (fun i hi => by
    have hi' : i < ss.length := by simpa using hi
    exact ⟨ss[i], by simp [hi']⟩)
  refine (take7_any x hx _ a _ ss.length h1 h2 h100 (fun i hi => h3 i (by simpa using hi))).mono ?_
  rintro e w' ⟨s, a', he, hs, h4, k4⟩
  exact ⟨s, a', he, hs, h4, (Cx.kp.of_below ((Below.refl _ _).alloc (Nat.le_refl _) _)).trans k4⟩
end Go.Proofs.Ytaddhackggbdkaa
