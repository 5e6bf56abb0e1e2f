/- The state of PostPlays: boxes and the reference's boxes side by side, what one move does to it; no program is walked here. -/
import Derived.Test.YtadcdnenecmbgaaRefFirst
namespace Go.Proofs.Ytadcdnenecmbgaa
open Go.Conc Go.RowKit

def upd {α : Type} (f : Nat → α) (k : Nat) (x : α) : Nat → α := fun i => if i = k then x else f i
theorem upd_same {α : Type} (f : Nat → α) (k : Nat) (x : α) : upd f k x k = x := by simp [upd]
theorem upd_other {α : Type} (f : Nat → α) (k : Nat) (x : α) (i : Nat) (h : i ≠ k) : upd f k x i = f i := by simp [upd, h]
/-- n boxes at B, C with room R, the reference's at Q with values V; L lies in both; vb, vx: the two rows of pointers; all of it at N or above. -/
structure PS (n N : Nat) (w : World) (vb vx : Value) (B C Q R : Nat → Nat) (V : Nat → Value) (L : Nat → List Int) : Prop where
  box : ∀ i, i < n → N ≤ B i ∧ N ≤ C i ∧ BoxAt 56 w (B i) (C i) (R i) (vals (L i))
  ref : ∀ i, i < n → N ≤ Q i ∧ RefAt w N (Q i) (R i) (V i) (L i)
  injC : ∀ i j, i < n → j < n → C i = C j → i = j
  injQ : ∀ i j, i < n → j < n → Q i = Q j → i = j
  injV : ∀ i j g, i < n → j < n → (V i).ownBlock = some g → (V j).ownBlock = some g → i = j
  room : ∀ i, i < n → (L i).length ≤ R i ∧ R i ≤ 1000
  rowB : w.ownsRow N 23 1 vb n (ptrs B n)
  rowX : w.ownsRow N 44 1 vx n (ptrs Q n)
  size : N ≤ w.heap.size

theorem chan_ne {w : World} {c i : Nat} {cap : Nat} {buf : Array Value} {cl : Bool} {s r : Nat} {tm : Bool} {cs : Array Value} {t : TypeId} {fz : Nat × Nat} (hc : w.heap[c]? = some (.chan cap buf cl s r tm)) (hi : w.heap[i]? = some (.cells cs t fz)) : i ≠ c := by
  rintro rfl
  rw [hc] at hi
  simp at hi
theorem tag_ne {w : World} {i j : Nat} {cs cs' : Array Value} {t t' : TypeId} {fz fz' : Nat × Nat} (hi : w.heap[i]? = some (.cells cs t fz)) (hj : w.heap[j]? = some (.cells cs' t' fz')) (h : t ≠ t') : i ≠ j := by
  rintro rfl
  rw [hi] at hj
  simp at hj
  exact h hj.2.1
theorem chan_cell {t : TypeId} {w w' : World} {b c cap : Nat} {L : List Value} {a : Addr} {v : Value} (h : BoxAt t w b c cap L) (k : ChanOnly c w w') (hc : w.cell? a = some v) : w'.cell? a = some v := by
  obtain ⟨_, _, s, r, hh⟩ := h
  have hne : a.block ≠ c := by
    intro e
    unfold World.cell? at hc
    rw [e, hh] at hc
    simp at hc
  rw [World.cell?_of_block (k.2.1 _ hne)]
  exact hc

theorem PS.touch {n N : Nat} {w w' : World} {vb vx : Value} {B C Q R : Nat → Nat} {V : Nat → Value} {L : Nat → List Int} (h : PS n N w vb vx B C Q R V L) {k : Nat} (hk : k < n) (hsz : w.heap.size ≤ w'.heap.size)
    (hw : ∀ i, i < w.heap.size → i ≠ C k → i ≠ Q k → some i ≠ (V k).ownBlock → w'.heap[i]? = w.heap[i]?) {V' : Value} {L' : List Int} (hbox : BoxAt 56 w' (B k) (C k) (R k) (vals L')) (href : RefAt w' N (Q k) (R k) V' L')
    (hnew : V'.ownBlock = (V k).ownBlock ∨ ∀ g, V'.ownBlock = some g → w.heap.size ≤ g) (hL : L'.length ≤ R k) : PS n N w' vb vx B C Q R (upd V k V') (upd L k L') := by
  obtain ⟨_, _, _, hbk, sk, rk, hck⟩ := h.box k hk
  obtain ⟨_, hqk, hvk⟩ := h.ref k hk
  -- a block of cells of another tag than 51 and 3 is as it was
  have far : ∀ (i : Nat) (cs : Array Value) (t : TypeId) (fz : Nat × Nat), w.heap[i]? = some (.cells cs t fz) → t ≠ 51 → t ≠ 3 → w'.heap[i]? = w.heap[i]? := fun i cs t fz hi h51 h3 => by
    refine hw i (Array.getElem?_eq_some_iff.1 hi).1 (chan_ne hck hi) (tag_ne hi hqk h51) (fun e => ?_)
    obtain ⟨_, cur, hh⟩ := own_info hvk e.symm
    exact tag_ne hi hh h3 rfl
  refine ⟨fun i hi => ?_, fun i hi => ?_, h.injC, h.injQ, fun i j g hi hj h1 h2 => ?_, fun i hi => ?_, own_stay h.rowB fun g hg => ?_, own_stay h.rowX fun g hg => ?_, Nat.le_trans h.size hsz⟩
  · obtain ⟨h1, h2, h3⟩ := h.box i hi
    by_cases e : i = k
    · subst e
      rw [upd_same]
      exact ⟨h1, h2, hbox⟩
    · rw [upd_other _ _ _ _ e]
      obtain ⟨hne, hb, s, r, hc⟩ := h3
      refine ⟨h1, h2, hne, ?_, s, r, ?_⟩
      · rw [far _ _ _ _ hb (by decide) (by decide)]
        exact hb
      · rw [hw (C i) (Array.getElem?_eq_some_iff.1 hc).1 (fun e' => e (h.injC i k hi hk e')) (fun e' => chan_ne hc hqk e'.symm) (fun e' => ?_)]
        · exact hc
        · obtain ⟨_, cur, hh⟩ := own_info hvk e'.symm
          exact chan_ne hc hh rfl
  · obtain ⟨h1, hq, hv⟩ := h.ref i hi
    by_cases e : i = k
    · subst e
      rw [upd_same, upd_same]
      exact ⟨h1, href⟩
    · rw [upd_other _ _ _ _ e, upd_other _ _ _ _ e]
      refine ⟨h1, ?_, own_stay hv fun g hg => ?_⟩
      · rw [hw (Q i) (Array.getElem?_eq_some_iff.1 hq).1 (chan_ne hck hq) (fun e' => e (h.injQ i k hi hk e')) (fun e' => ?_)]
        · exact hq
        · obtain ⟨_, cur, hh⟩ := own_info hvk e'.symm
          exact tag_ne hq hh (by decide) rfl
      · obtain ⟨_, cur, hh⟩ := own_info hv hg
        refine hw g (Array.getElem?_eq_some_iff.1 hh).1 (chan_ne hck hh) (tag_ne hh hqk (by decide)) (fun e' => e (h.injV i k g hi hk hg e'.symm))
  · have key : ∀ i, i < n → i ≠ k → (V i).ownBlock = some g → V'.ownBlock = some g → False := fun i hi e hg hg' => by
      rcases hnew with hn | hn
      · rw [hn] at hg'
        exact e (h.injV i k g hi hk hg hg')
      · obtain ⟨_, cur, hh⟩ := own_info (h.ref i hi).2.2 hg
        have := (Array.getElem?_eq_some_iff.1 hh).1
        have := hn g hg'
        omega
    by_cases e1 : i = k <;> by_cases e2 : j = k
    · omega
    · rw [e1, upd_same] at h1
      rw [upd_other _ _ _ _ e2] at h2
      exact (key j hj e2 h2 h1).elim
    · rw [upd_other _ _ _ _ e1] at h1
      rw [e2, upd_same] at h2
      exact (key i hi e1 h1 h2).elim
    · rw [upd_other _ _ _ _ e1] at h1
      rw [upd_other _ _ _ _ e2] at h2
      exact h.injV i j g hi hj h1 h2
  · by_cases e : i = k
    · subst e
      rw [upd_same]
      exact ⟨hL, (h.room i hi).2⟩
    · rw [upd_other _ _ _ _ e]
      exact h.room i hi
  · obtain ⟨_, cur, hh⟩ := own_info h.rowB hg
    exact far g _ _ _ hh (by decide) (by decide)
  · obtain ⟨_, cur, hh⟩ := own_info h.rowX hg
    exact far g _ _ _ hh (by decide) (by decide)

/-- Nothing but draws. -/
theorem PS.drewN {n N : Nat} {w : World} {vb vx : Value} {B C Q R : Nat → Nat} {V : Nat → Value} {L : Nat → List Int} (h : PS n N w vb vx B C Q R V L) (m : Nat) : PS n N (w.drewN m) vb vx B C Q R V L :=
  ⟨h.box, h.ref, h.injC, h.injQ, h.injV, h.room, h.rowB, h.rowX, h.size⟩
theorem RefStep.below {N q : Nat} {a w w' : World} {v v' : Value} {n : Nat} {xs : List Value} (h : Below N a w) (k : RefStep w w' q v v') (hq : N ≤ q) (hv : w.ownsRow N 3 1 v n xs) (hs : N ≤ w.heap.size) : Below N a w' :=
  h.trans ⟨k.os, k.tape, k.output, k.size, fun i hi => k.block i (by omega) (by omega) (fun e => by have := (own_info hv e.symm).1; omega)⟩
def nilV : Nat → Value := fun _ => .slice none 0 0
def nilL : Nat → List Int := fun _ => []
theorem ptrs_more (B : Nat → Nat) (k b : Nat) : ptrs (upd B k b) (k + 1) = ptrs B k ++ [.pointer (some ⟨b, 0, none⟩)] := by
  simp only [ptrs, List.range_succ, List.map_append, List.map_cons, List.map_nil, upd_same]
  congr 1
  apply List.map_congr_left
  intro i hi
  have := List.mem_range.1 hi
  rw [upd_other _ _ _ _ (by omega)]
/-- One box more of each. -/
theorem PS.more {k N : Nat} {w w' : World} {vb vx vb' vx' : Value} {B C Q R : Nat → Nat} (h : PS k N w vb vx B C Q R nilV nilL) (hsz : w.heap.size ≤ w'.heap.size)
    (hw : ∀ i, i < w.heap.size → some i ≠ vb.ownBlock → some i ≠ vx.ownBlock → w'.heap[i]? = w.heap[i]?) {b c q r : Nat} (hb : w.heap.size ≤ b) (hc : w.heap.size ≤ c) (hq : w.heap.size ≤ q)
    (hbox : BoxAt 56 w' b c r (vals [])) (href : w'.heap[q]? = some (.cells #[.slice none 0 0, .int .i64 (r : Int)] 51 (0, 0))) (hr : r ≤ 1000)
    (hrb : w'.ownsRow N 23 1 vb' (k + 1) (ptrs B k ++ [.pointer (some ⟨b, 0, none⟩)])) (hrx : w'.ownsRow N 44 1 vx' (k + 1) (ptrs Q k ++ [.pointer (some ⟨q, 0, none⟩)])) :
    ∃ B C Q R, PS (k + 1) N w' vb' vx' B C Q R nilV nilL := by
  have hN := h.size
  have far : ∀ (i : Nat) (o : Obj), w.heap[i]? = some o → (∀ cs t fz, o = .cells cs t fz → t ≠ 23 ∧ t ≠ 44) → w'.heap[i]? = some o := fun i o hi ho => by
    rw [hw i (Array.getElem?_eq_some_iff.1 hi).1 (fun e => ?_) (fun e => ?_)]
    · exact hi
    · obtain ⟨_, cur, hh⟩ := own_info h.rowB e.symm
      rw [hh] at hi
      injection hi with hi
      exact (ho _ _ _ hi.symm).1 rfl
    · obtain ⟨_, cur, hh⟩ := own_info h.rowX e.symm
      rw [hh] at hi
      injection hi with hi
      exact (ho _ _ _ hi.symm).2 rfl
  refine ⟨upd B k b, upd C k c, upd Q k q, upd R k r, fun i hi => ?_, fun i hi => ?_, fun i j hi hj => ?_, fun i j hi hj => ?_, fun i j g _ _ h1 _ => by simp [nilV, Value.ownBlock] at h1, fun i hi => ?_, by rw [ptrs_more]; exact hrb, by rw [ptrs_more]; exact hrx, Nat.le_trans hN hsz⟩
  · by_cases e : i = k
    · subst e
      simp only [upd_same]
      exact ⟨by omega, by omega, hbox⟩
    · simp only [upd_other _ _ _ _ e]
      obtain ⟨h1, h2, hne, hbb, s, r', hcc⟩ := h.box i (by omega)
      exact ⟨h1, h2, hne, far _ _ hbb (by intro cs t fz e; injection e with _ e _; subst e; decide), s, r', far _ _ hcc (by intro cs t fz e; cases e)⟩
  · by_cases e : i = k
    · subst e
      simp only [upd_same]
      exact ⟨by omega, href, World.ownsRow_nil _ _ _ _⟩
    · simp only [upd_other _ _ _ _ e]
      obtain ⟨h1, hqq, _⟩ := h.ref i (by omega)
      exact ⟨h1, far _ _ hqq (by intro cs t fz e; injection e with _ e _; subst e; decide), World.ownsRow_nil _ _ _ _⟩
  · have key : ∀ i, i < k → C i < w.heap.size := fun i hi => (h.box i hi).2.2.lt.2
    by_cases e1 : i = k <;> by_cases e2 : j = k
    · omega
    · have := key j (by omega)
      rw [e1, upd_same, upd_other _ _ _ _ e2]
      omega
    · have := key i (by omega)
      rw [e2, upd_same, upd_other _ _ _ _ e1]
      omega
    · rw [upd_other _ _ _ _ e1, upd_other _ _ _ _ e2]
      exact h.injC i j (by omega) (by omega)
  · have key : ∀ i, i < k → Q i < w.heap.size := fun i hi => (Array.getElem?_eq_some_iff.1 (h.ref i hi).2.1).1
    by_cases e1 : i = k <;> by_cases e2 : j = k
    · omega
    · have := key j (by omega)
      rw [e1, upd_same, upd_other _ _ _ _ e2]
      omega
    · have := key i (by omega)
      rw [e2, upd_same, upd_other _ _ _ _ e1]
      omega
    · rw [upd_other _ _ _ _ e1, upd_other _ _ _ _ e2]
      exact h.injQ i j (by omega) (by omega)
  · by_cases e : i = k
    · subst e
      simp only [upd_same]
      exact ⟨Nat.zero_le _, hr⟩
    · simp only [upd_other _ _ _ _ e]
      exact h.room i (by omega)
theorem ps_none (N : Nat) (w : World) (hN : N ≤ w.heap.size) (f : Nat → Nat) : PS 0 N w (.slice none 0 0) (.slice none 0 0) f f f f nilV nilL :=
  ⟨fun _ hi => absurd hi (Nat.not_lt_zero _), fun _ hi => absurd hi (Nat.not_lt_zero _), fun _ _ hi => absurd hi (Nat.not_lt_zero _), fun _ _ hi => absurd hi (Nat.not_lt_zero _), fun _ _ _ hi => absurd hi (Nat.not_lt_zero _), fun _ hi => absurd hi (Nat.not_lt_zero _), World.ownsRow_nil _ _ _ _, World.ownsRow_nil _ _ _ _, hN⟩
theorem new_le (x : Int) (h : x ≤ 1000) (w : World) :
    Calls Try.prog 8 #[.int .i64 x] w fun e w' => e = .returned (.pointer (some ⟨w.heap.size + 1, 0, none⟩)) ∧ (w.alloc (.chan x.toNat #[] false 0 0 false)).alloc (.cells #[.chan (some w.heap.size)] 56) = w' := by
  by_cases h0 : x ≤ 0
  · rw [show x.toNat = 0 from by omega]
    exact new_neg x h0 w
  · obtain ⟨n, rfl⟩ := Int.eq_ofNat_of_zero_le (show 0 ≤ x by omega)
    rw [Int.toNat_natCast]
    exact new_int n (by omega) w
theorem ref_new_le (x : Int) (w : World) : Calls Try.prog 18 #[.int .i64 x] w fun e w' => e = .returned (.pointer (some ⟨w.heap.size, 0, none⟩)) ∧ w.alloc (.cells #[.slice none 0 0, .int .i64 (x.toNat : Int)] 51) = w' := by
  by_cases h0 : x ≤ 0
  · rw [show x.toNat = 0 from by omega]
    exact ref_new_neg x h0 w
  · obtain ⟨n, rfl⟩ := Int.eq_ofNat_of_zero_le (show 0 ≤ x by omega)
    rw [Int.toNat_natCast]
    exact ref_new n w
theorem and1023 (x : Int) : ∃ m : Nat, m ≤ 1023 ∧ bits .and .i64 x 1023 = (m : Int) := by
  refine ⟨(BitVec.ofInt 64 x &&& BitVec.ofInt 64 1023).toNat, ?_, ?_⟩
  · rw [BitVec.toNat_and]
    exact Nat.le_trans Nat.and_le_right (by decide)
  · have hx : (BitVec.ofInt 64 x &&& BitVec.ofInt 64 1023).toNat ≤ 1023 := by
      rw [BitVec.toNat_and]
      exact Nat.le_trans Nat.and_le_right (by decide)
    show IntKind.i64.wrap ((BitVec.ofInt 64 x &&& BitVec.ofInt 64 1023).toNat : Int) = _
    rw [IntKind.wrap_i64]
    omega
theorem rows_apart {w : World} {N : Nat} {e e' : TypeId} {v v' : Value} {n n' : Nat} {xs xs' : List Value} (h : w.ownsRow N e 1 v n xs) (h' : w.ownsRow N e' 1 v' n' xs') (hne : e ≠ e') : v.ownBlock = none ∨ v.ownBlock ≠ v'.ownBlock := by
  cases hv : v.ownBlock with
  | none => exact .inl rfl
  | some g =>
    refine .inr fun e => ?_
    obtain ⟨_, cur, hh⟩ := own_info h hv
    obtain ⟨_, cur', hh'⟩ := own_info h' e.symm
    exact tag_ne hh hh' hne rfl
/-- A round of the building: both rows are longer by one. -/
theorem build_step {k N r : Nat} {wr w1 w2 w5 : World} {vb vx v2 v5 : Value} {B C Q R : Nat → Nat} (hP : PS k N wr vb vx B C Q R nilV nilL) (hG1 : wr.grownBy w1 none) (hs1 : w1.heap.size = wr.heap.size + 2)
    (hB : BoxAt 56 w1 (wr.heap.size + 1) wr.heap.size r (vals [])) (hr : r ≤ 1000) {o o' : Obj} (hgr2 : ((w1.alloc o).drew).grownBy w2 vb.ownBlock)
    (hown2 : w2.ownsRow N 23 1 v2 (k + 1) (ptrs B k ++ [.pointer (some ⟨wr.heap.size + 1, 0, none⟩)]))
    (hgr5 : ((w2.alloc (.cells #[.slice none 0 0, .int .i64 (r : Int)] 51)).alloc o').grownBy w5 vx.ownBlock) (hown5 : w5.ownsRow N 44 1 v5 (k + 1) (ptrs Q k ++ [.pointer (some ⟨w2.heap.size, 0, none⟩)])) :
    (∃ B C Q R, PS (k + 1) N w5 v2 v5 B C Q R nilV nilL) ∧ ∀ a, Below N a wr → Below N a w5 := by
  have hN := hP.size
  have hz2 : wr.heap.size + 3 ≤ w2.heap.size := by
    have := hgr2.size
    change (w1.alloc o).heap.size ≤ _ at this
    simp at this
    omega
  have hz5 : w2.heap.size + 2 ≤ w5.heap.size := by
    have := hgr5.size
    simp at this
    omega
  have lb : ∀ i, vb.ownBlock = some i → N ≤ i ∧ i < wr.heap.size := fun i e => hP.rowB.lt i e
  have lx : ∀ i, vx.ownBlock = some i → N ≤ i ∧ i < wr.heap.size := fun i e => hP.rowX.lt i e
  have b12 : ∀ i, i < w1.heap.size → some i ≠ vb.ownBlock → w2.heap[i]? = w1.heap[i]? := fun i hi hne => by
    rw [hgr2.block i (by show i < (w1.alloc o).heap.size; simp; omega) hne]
    exact Below.heap_alloc w1 o i hi
  have b25 : ∀ i, i < w2.heap.size → some i ≠ vx.ownBlock → w5.heap[i]? = w2.heap[i]? := fun i hi hne => by
    rw [hgr5.block i (by simp; omega) hne, Below.heap_alloc _ _ _ (by simp; omega), Below.heap_alloc _ _ _ hi]
  have hw : ∀ i, i < wr.heap.size → some i ≠ vb.ownBlock → some i ≠ vx.ownBlock → w5.heap[i]? = wr.heap[i]? := fun i hi h1 h2 => by
    rw [b25 i (by omega) h2, b12 i (by omega) h1, hG1.block i hi (by simp)]
  have hB5 : BoxAt 56 w5 (wr.heap.size + 1) wr.heap.size r (vals []) := by
    obtain ⟨hne, hb, s, r', hc⟩ := hB
    refine ⟨hne, ?_, s, r', ?_⟩
    · rw [b25 _ (by omega) (fun e => by have := (lx _ e.symm).2; omega), b12 _ (by omega) (fun e => by have := (lb _ e.symm).2; omega)]
      exact hb
    · rw [b25 _ (by omega) (fun e => by have := (lx _ e.symm).2; omega), b12 _ (by omega) (fun e => by have := (lb _ e.symm).2; omega)]
      exact hc
  have hq5 : w5.heap[w2.heap.size]? = some (.cells #[.slice none 0 0, .int .i64 (r : Int)] 51 (0, 0)) := by
    rw [hgr5.block _ (by simp; omega) (fun e => by have := (lx _ e.symm).2; omega), Below.heap_alloc _ _ _ (by simp)]
    exact heap_alloc_new _ _
  have hX2 : w2.ownsRow N 44 1 vx k (ptrs Q k) := by
    refine own_stay (own_none hP.rowX hG1) (fun g hg => b12 g (by have := (lx g hg).2; omega) (fun e => ?_))
    rcases rows_apart hP.rowX hP.rowB (by decide) with h | h
    · rw [h] at hg
      cases hg
    · exact h (hg.trans e)
  have hrb : w5.ownsRow N 23 1 v2 (k + 1) (ptrs B k ++ [.pointer (some ⟨wr.heap.size + 1, 0, none⟩)]) := by
    refine own_stay hown2 (fun g hg => b25 g (hown2.lt g hg).2 (fun e => ?_))
    rcases rows_apart hown2 hX2 (by decide) with h | h
    · rw [h] at hg
      cases hg
    · exact h (hg.trans e)
  refine ⟨hP.more (by omega) hw (by omega) (Nat.le_refl _) (by omega) hB5 hq5 hr hrb hown5, fun a ha => ?_⟩
  refine ha.trans ⟨hgr5.os.trans (hgr2.os.trans hG1.os), hgr5.tape.trans (hgr2.tape.trans hG1.tape), hgr5.output.trans (hgr2.output.trans hG1.output), by omega, fun i hi => ?_⟩
  exact hw i (by omega) (fun e => by have := (lb _ e.symm).1; omega) (fun e => by have := (lx _ e.symm).1; omega)
theorem grown_cell {t : TypeId} {w w' : World} {b c cap : Nat} {L : List Value} {a : Addr} {v : Value} (h : BoxAt t w b c cap L) (k : w.grownBy w' (some c)) (hc : w.cell? a = some v) : w'.cell? a = some v := by
  obtain ⟨_, _, s, r, hh⟩ := h
  have hne : a.block ≠ c := by
    intro e
    unfold World.cell? at hc
    rw [e, hh] at hc
    simp at hc
  rw [World.cell?_of_block (k.block _ (lt_of_cell hc) (fun e => hne (by injection e)))]
  exact hc
/-- The reference's box behind what was done to the channel of the other. -/
theorem PS.ref_after {n N : Nat} {w w' : World} {vb vx : Value} {B C Q R : Nat → Nat} {V : Nat → Value} {L : Nat → List Int} (h : PS n N w vb vx B C Q R V L) {k : Nat} (hk : k < n) (hG : w.grownBy w' (some (C k))) : RefAt w' N (Q k) (R k) (V k) (L k) := by
  obtain ⟨_, _, _, _, s, r, hc⟩ := h.box k hk
  obtain ⟨_, hq, hv⟩ := h.ref k hk
  have stay : ∀ (i : Nat) (cs : Array Value) (t : TypeId) (fz : Nat × Nat), w.heap[i]? = some (.cells cs t fz) → w'.heap[i]? = w.heap[i]? := fun i cs t fz hi =>
    hG.block i (Array.getElem?_eq_some_iff.1 hi).1 (fun e => chan_ne hc hi (by injection e))
  refine ⟨by rw [stay _ _ _ _ hq]; exact hq, own_stay hv fun g hg => ?_⟩
  obtain ⟨_, cur, hh⟩ := own_info hv hg
  exact stay _ _ _ _ hh
/-- One move: the box's channel, then the reference's box. -/
theorem PS.both {n N : Nat} {w w2 w3 : World} {vb vx : Value} {B C Q R : Nat → Nat} {V : Nat → Value} {L : Nat → List Int} (h : PS n N w vb vx B C Q R V L) {k : Nat} (hk : k < n) (hG : w.grownBy w2 (some (C k)))
    {V' : Value} {L' : List Int} (hbox : BoxAt 56 w2 (B k) (C k) (R k) (vals L')) (href : RefAt w3 N (Q k) (R k) V' L') (hS : RefStep w2 w3 (Q k) (V k) V') (hL : L'.length ≤ R k) :
    PS n N w3 vb vx B C Q R (upd V k V') (upd L k L') ∧ (∀ a, Below N a w → Below N a w3) ∧ BoxAt 56 w3 (B k) (C k) (R k) (vals L') := by
  obtain ⟨_, hNC, _⟩ := h.box k hk
  obtain ⟨hNQ, hq, hv⟩ := h.ref k hk
  obtain ⟨hq2, hv2⟩ := h.ref_after hk hG
  have hw : ∀ i, i < w.heap.size → i ≠ C k → i ≠ Q k → some i ≠ (V k).ownBlock → w3.heap[i]? = w.heap[i]? := fun i hi h1 h2 h3 => by
    rw [hS.block i (Nat.lt_of_lt_of_le hi hG.size) h2 h3]
    exact hG.block i hi (fun e => h1 (by injection e))
  have hbox3 : BoxAt 56 w3 (B k) (C k) (R k) (vals L') := by
    obtain ⟨hne, hb, s, r, hc⟩ := hbox
    refine ⟨hne, ?_, s, r, ?_⟩
    · rw [hS.block _ (Array.getElem?_eq_some_iff.1 hb).1 (tag_ne hb hq2 (by decide)) (fun e => ?_)]
      · exact hb
      · obtain ⟨_, cur, hh⟩ := own_info hv2 e.symm
        exact tag_ne hb hh (by decide) rfl
    · rw [hS.block _ (Array.getElem?_eq_some_iff.1 hc).1 (fun e => chan_ne hc hq2 e.symm) (fun e => ?_)]
      · exact hc
      · obtain ⟨_, cur, hh⟩ := own_info hv2 e.symm
        exact chan_ne hc hh rfl
  refine ⟨h.touch hk (Nat.le_trans hG.size hS.size) hw hbox3 href ?_ hL, fun a ha => ?_, hbox3⟩
  · rcases hS.new with e | e
    · exact .inl e
    · exact .inr fun g hg => Nat.le_trans hG.size (e g hg)
  · refine ha.trans ⟨hS.os.trans hG.os, hS.tape.trans hG.tape, hS.output.trans hG.output, Nat.le_trans hG.size hS.size, fun i hi => ?_⟩
    have hN := h.size
    exact hw i (by omega) (by omega) (by omega) (fun e => by have := (own_info hv e.symm).1; omega)
theorem len_same (b c cap : Nat) (L : List Int) (w : World) (h : BoxAt 56 w b c cap (vals L)) :
    Calls Try.prog 11 #[.pointer (some ⟨b, 0, none⟩)] w fun e w' => e = .returned (.int .i64 (L.length : Nat)) ∧ w' = w :=
  (len_box b c cap L w h).mono fun _ _ ⟨h1, h2⟩ => ⟨h1, h2.symm⟩
/-- What the reference's list cell holds. -/
theorem ref_cell {n N : Nat} {w : World} {vb vx : Value} {B C Q R : Nat → Nat} {V : Nat → Value} {L : Nat → List Int} (h : PS n N w vb vx B C Q R V L) {y : Nat} (hy : y < n) (l : List Int) (hl : L y = l) :
    ∃ av cv, w.cell? ⟨Q y, 0, none⟩ = some (.slice av l.length cv) := by
  subst hl
  obtain ⟨_, hq, hv⟩ := h.ref y hy
  obtain ⟨a, c, e⟩ := own_shape hv
  exact ⟨a, c, by rw [cell_of hq 0]; simp [e]⟩
theorem box_cell {n N : Nat} {w : World} {vb vx : Value} {B C Q R : Nat → Nat} {V : Nat → Value} {L : Nat → List Int} (h : PS n N w vb vx B C Q R V L) {y : Nat} (hy : y < n) (l : List Int) (hl : L y = l) : BoxAt 56 w (B y) (C y) (R y) (vals l) := by
  subst hl
  exact (h.box y hy).2.2
/-- Blocks that the reference's box k does not touch. -/
def Off (V : Nat → Value) (Q : Nat → Nat) (k : Nat) (i : Nat) : Prop := i ≠ Q k ∧ some i ≠ (V k).ownBlock
theorem PS.off_rows {n N cb cx gb gx : Nat} {w : World} {B C Q R : Nat → Nat} {V : Nat → Value} {L : Nat → List Int} (h : PS n N w (.slice (some ⟨gb, 0, none⟩) n cb) (.slice (some ⟨gx, 0, none⟩) n cx) B C Q R V L) {k : Nat} (hk : k < n) :
    Off V Q k gb ∧ Off V Q k gx ∧ ∀ i, i < N → Off V Q k i := by
  obtain ⟨hNQ, hq, hv⟩ := h.ref k hk
  obtain ⟨_, cur, hb⟩ := own_info h.rowB (g := gb) rfl
  obtain ⟨_, cur', hx⟩ := own_info h.rowX (g := gx) rfl
  refine ⟨⟨tag_ne hb hq (by decide), fun e => ?_⟩, ⟨tag_ne hx hq (by decide), fun e => ?_⟩, fun i hi => ⟨by omega, fun e => ?_⟩⟩
  · obtain ⟨_, c, hh⟩ := own_info hv e.symm
    exact tag_ne hb hh (by decide) rfl
  · obtain ⟨_, c, hh⟩ := own_info hv e.symm
    exact tag_ne hx hh (by decide) rfl
  · have := (own_info hv e.symm).1
    omega
theorem ref_keep {w2 w3 : World} {Q : Nat → Nat} {V : Nat → Value} {k : Nat} {v' : Value} {a : Addr} {u : Value} (hS : RefStep w2 w3 (Q k) (V k) v') (hc : w2.cell? a = some u) (ho : Off V Q k a.block) : w3.cell? a = some u := by
  rw [World.cell?_of_block (hS.block _ (lt_of_cell hc) ho.1 ho.2)]
  exact hc
theorem quiet_no {P : Program} {f : FuncId} {args : Array Value} {w : World} {n : Nat} {v : Value}
    (h : Calls P f args (w.drewN n) fun e w' => e = .returned v ∧ w.drewN n = w') : Calls P f args (w.drewN n) fun e w'' => e = .returned v ∧ ∃ m, w'' = w.drewN m :=
  h.mono fun _ _ ⟨he, hm⟩ => ⟨he, n, hm.symm⟩
theorem quiet_dr {P : Program} {f : FuncId} {args : Array Value} {w : World} {n : Nat} {v : Value}
    (h : Calls P f args (w.drewN n) fun e w' => e = .returned v ∧ ∃ m, (w.drewN n).drewN m = w') : Calls P f args (w.drewN n) fun e w'' => e = .returned v ∧ ∃ m, w'' = w.drewN m :=
  h.mono fun _ _ ⟨he, m, hm⟩ => ⟨he, n + m, by rw [← hm, World.drewN_drewN]⟩
theorem first_full (L : Nat → List Int) (n : Nat) : (∀ i, i < n → L i = []) ∨ ∃ j x l, j < n ∧ L j = x :: l ∧ ∀ i, i < j → L i = [] := by
  induction n with
  | zero => exact .inl fun i hi => absurd hi (Nat.not_lt_zero _)
  | succ n ih =>
    rcases ih with h | ⟨j, x, l, hj, h, h'⟩
    · cases hL : L n with
      | nil =>
        refine .inl fun i hi => ?_
        rcases (show i < n ∨ i = n by omega) with h' | rfl
        · exact h i h'
        · exact hL
      | cons x l => exact .inr ⟨n, x, l, by omega, hL, h⟩
    · exact .inr ⟨j, x, l, by omega, h, h'⟩
theorem add_zero_off (g i : Nat) : (⟨g, 0, none⟩ : Addr).add i = ⟨g, i, none⟩ := by
  unfold Addr.add
  split
  · simp_all
  · simp
/-- The rows of pointers, and the boxes that they lead to, as First asks for them. -/
theorem PS.empties {n N cb gb : Nat} {vx : Value} {w : World} {B C Q R : Nat → Nat} {V : Nat → Value} {L : Nat → List Int} (h : PS n N w (.slice (some ⟨gb, 0, none⟩) n cb) vx B C Q R V L) (m : Nat) (hm : m ≤ n) (he : ∀ i, i < m → L i = []) :
    ∀ i, i < m → ∃ ad p, some (⟨gb, 0, none⟩ : Addr) = some ad ∧ w.cell? (ad.add i) = some (.pointer p) ∧ Empty w p := by
  intro i hi
  refine ⟨_, some ⟨B i, 0, none⟩, rfl, ?_, .inr ⟨B i, C i, R i, rfl, ?_⟩⟩
  · rw [add_zero_off, h.rowB.cellAt i (by omega)]
    simp [ptrs, show i < n by omega]
  · have := (h.box i (by omega)).2.2
    rwa [he i hi] at this
theorem PS.ref_other {n N : Nat} {w w' : World} {vb vx : Value} {B C Q R : Nat → Nat} {V : Nat → Value} {L : Nat → List Int} (h : PS n N w vb vx B C Q R V L) {k : Nat} (hk : k < n) (hG : w.grownBy w' (some (C k))) (i : Nat) (hi : i < n) : RefAt w' N (Q i) (R i) (V i) (L i) := by
  obtain ⟨_, _, _, _, s, r, hc⟩ := h.box k hk
  obtain ⟨_, hq, hv⟩ := h.ref i hi
  have stay : ∀ (i : Nat) (cs : Array Value) (t : TypeId) (fz : Nat × Nat), w.heap[i]? = some (.cells cs t fz) → w'.heap[i]? = w.heap[i]? := fun i cs t fz hi =>
    hG.block i (Array.getElem?_eq_some_iff.1 hi).1 (fun e => chan_ne hc hi (by injection e))
  refine ⟨by rw [stay _ _ _ _ hq]; exact hq, own_stay hv fun g hg => ?_⟩
  obtain ⟨_, cur, hh⟩ := own_info hv hg
  exact stay _ _ _ _ hh
theorem PS.ref_empties {n N cx gx : Nat} {vb : Value} {w w' : World} {B C Q R : Nat → Nat} {V : Nat → Value} {L : Nat → List Int} (h : PS n N w vb (.slice (some ⟨gx, 0, none⟩) n cx) B C Q R V L) {k : Nat} (hk : k < n) (hG : w.grownBy w' (some (C k))) (m : Nat) (hm : m ≤ n) (he : ∀ i, i < m → L i = []) :
    ∀ i, i < m → ∃ ad q room v, some (⟨gx, 0, none⟩ : Addr) = some ad ∧ w'.cell? (ad.add i) = some (.pointer (some ⟨q, 0, none⟩)) ∧ RefAt w' N q room v [] := by
  intro i hi
  refine ⟨_, Q i, R i, V i, rfl, ?_, ?_⟩
  · refine grown_cell (h.box k hk).2.2 hG ?_
    rw [add_zero_off, h.rowX.cellAt i (by omega)]
    simp [ptrs, show i < n by omega]
  · have := h.ref_other hk hG i (by omega)
    rwa [he i hi] at this
/-- The reference's list struck out. -/
theorem ref_struck {w : World} {N q room : Nat} {v : Value} {L : List Int} (h : RefAt w N q room v L) : RefAt (w.setCell ⟨q, 0, none⟩ (.slice none 0 0)) N q room (.slice none 0 0) [] ∧ RefStep w (w.setCell ⟨q, 0, none⟩ (.slice none 0 0)) q v (.slice none 0 0) := by
  refine ⟨⟨by simpa using blk_set h.1 0 (.slice none 0 0), World.ownsRow_nil _ _ _ _⟩, rfl, rfl, rfl, by rw [set_size]; exact Nat.le_refl _, fun i _ hiq _ => set_other _ _ _ _ hiq, .inr fun g e => by simp [Value.ownBlock] at e⟩
theorem vals_get (L : List Int) (j : Nat) (h : j < L.length) : (vals L)[j]? = some (.int .i64 (L.getD j 0)) := by simp [vals, h]
end Go.Proofs.Ytadcdnenecmbgaa
