/- How slices among a law's arguments are opened: each element's cells, what they hold, and that the slice is within the form's reach; no condition. -/
import Derived.SizedLaws
import Derived.Deep.Slices
import Derived.Deep.Fields
import Derived.ChangeSame
import Derived.ChangeSlices
import Derived.Below
namespace Go.Proofs.Ytaddhackggbdkaa
open Go.ChangeShapes Go.WideShapes Go.Deep Go.RowKit

theorem lt_of_cell {w : World} {a : Addr} {v : Value} (h : w.cell? a = some v) : a.block < w.heap.size := by
  unfold World.cell? at h
  cases hb : w.heap[a.block]? with
  | none => simp [hb] at h
  | some o => exact (Array.getElem?_eq_some_iff.1 hb).1
theorem add_block (a : Addr) (k : Nat) : (a.add k).block = a.block := by unfold Addr.add; split <;> rfl
/-- A later field of element i, as the walk spells its address. -/
theorem add_fld (a : Addr) (i c : Nat) (hc : c ≠ 0) : a.add (i + c) = ⟨(a.add i).block, (a.add i).off + c, none⟩ := by
  unfold Addr.add
  by_cases hi : i = 0 <;> simp [hi, hc, Nat.add_assoc]
/-- Cell i of a block that is known whole. -/
theorem cell_at {w : World} {g : Nat} {cs : Array Value} {t : TypeId} {fz : Nat × Nat} (h : w.heap[g]? = some (.cells cs t fz)) (i : Nat) : w.cell? ((⟨g, 0, none⟩ : Addr).add i) = cs[i]? := by
  unfold Addr.add
  split
  · rename_i e
    subst e
    simp [World.cell?, h]
  · simp [World.cell?, h]
theorem cell_of {w : World} {g : Nat} {cs : Array Value} {t : TypeId} {fz : Nat × Nat} (h : w.heap[g]? = some (.cells cs t fz)) (i : Nat) : w.cell? ⟨g, i, none⟩ = cs[i]? := by
  simp [World.cell?, h]
theorem free_of {w : World} {g : Nat} {cs : Array Value} {t : TypeId} (h : w.heap[g]? = some (.cells cs t (0, 0))) (i : Nat) : w.frozen? ⟨g, i, none⟩ = false := by
  simp [World.frozen?, h]
/-- A block behind a store into one of its cells. -/
theorem blk_set {w : World} {b : Nat} {cs : Array Value} {t : TypeId} {fz : Nat × Nat} (h : w.heap[b]? = some (.cells cs t fz)) (i : Nat) (u : Value) : (w.setCell ⟨b, i, none⟩ u).heap[b]? = some (.cells (cs.setIfInBounds i u) t fz) := by
  have hlt : b < w.heap.size := (Array.getElem?_eq_some_iff.1 h).1
  have h' : w.heap[b] = .cells cs t fz := (Array.getElem?_eq_some_iff.1 h).2
  show (w.heap.modify b _)[b]? = _
  rw [Array.getElem?_eq_getElem (by simpa using hlt), Array.getElem_modify_self, h']
  rfl
theorem set_other (w : World) (a : Addr) (u : Value) (i : Nat) (h : i ≠ a.block) : (w.setCell a u).heap[i]? = w.heap[i]? := Below.heap_setCell _ _ _ _ h
theorem set_size (w : World) (a : Addr) (u : Value) : (w.setCell a u).heap.size = w.heap.size := by simp [World.setCell]
/-- A cell that lies in w lies in what comes of w above B. -/
theorem cell_below {B : Nat} {w w' : World} {a : Addr} {v : Value} (h : Below B w w') (hB : a.block < B) (hc : w.cell? a = some v) : w'.cell? a = some v := (h.cell hB).trans hc

section
variable {H : Type} {enc : TypeId × Value → H} {P : Program} {w : World} {base : Nat} {spare : Nat → Bool} {held : Bool}

theorem sized_sl {t e : TypeId} {a : Option Addr} {len cap : Nat} {d : DataW H} {ps : List MemPlace} {ts : List TypeId} {ds : List (DataW H)} {j : Nat}
    (hsz : (DataW.weightsEach P ts ds).all (· ≤ reachBytes) = true) (ht : ts[j]? = some t) (hd : ds[j]? = some d) (hu : P.underlying t = some (.slice e)) {B : Nat} (hB : P.bytesOf e = B)
    (h : DataW.Trod enc P w base spare held t (.slice a len cap) d ps) : len * B ≤ 140737488351232 := by
  obtain ⟨fuel, hf⟩ := h
  rcases open_slice hu hf with ⟨hcs, _⟩ | ⟨x, l, c, m, n, D, Pl, hcs, _, hl, _, hm, hx, _⟩
  · simp [Value.cells] at hcs
    obtain ⟨rfl, rfl, rfl⟩ := hcs
    simp
  · simp [Value.cells] at hcs
    obtain ⟨rfl, rfl, rfl⟩ := hcs
    obtain ⟨hx, _⟩ := Prod.mk.inj hx
    subst hx
    have z := sized_slice hsz ht hd hu
    rw [hB] at z
    simp only [List.length_map, List.length_range] at z
    refine Nat.le_trans (Nat.mul_le_mul_right _ ?_) z
    omega

/-- A slice of one-cell elements. -/
theorem open_sl {t e : TypeId} {a : Option Addr} {len cap : Nat} {d : DataW H} {ps : List MemPlace} (ht : P.underlying t = some (.slice e)) (hc : P.cellsOf e = 1)
    (h : DataW.Trod enc P w base spare held t (.slice a len cap) d ps) :
    ∀ i, i < len → ∃ v, (∃ ad, a = some ad ∧ ad.block < w.heap.size ∧ w.cell? (ad.add i) = some v) ∧ ∃ n y, DataW.trod enc P w base spare held n e [v] = some y := by
  obtain ⟨fuel, hf⟩ := h
  rcases open_slice1 ht hc hf with ⟨hcs, _⟩ | ⟨x, l, c, m, n, V, D, Pl, hcs, _, hl, _, hm, _, hi⟩
  · simp [Value.cells] at hcs
    obtain ⟨rfl, rfl, rfl⟩ := hcs
    intro i hi
    exact absurd hi (Nat.not_lt_zero _)
  · simp [Value.cells] at hcs
    obtain ⟨rfl, rfl, rfl⟩ := hcs
    intro i hlt
    have hm' : i < m := by
      rw [hm]
      split <;> omega
    obtain ⟨h1, h2⟩ := hi i hm'
    exact ⟨V i, ⟨x, rfl, by have := lt_of_cell h1; rwa [add_block] at this, h1⟩, n, _, h2⟩
theorem open_sl_int {t e : TypeId} {k : IntKind} {a : Option Addr} {len cap : Nat} {d : DataW H} {ps : List MemPlace} (ht : P.underlying t = some (.slice e)) (he : P.underlying e = some (.int k)) (hc : P.cellsOf e = 1)
    (h : DataW.Trod enc P w base spare held t (.slice a len cap) d ps) :
    ∃ z : Nat → Int, ∀ i, i < len → (∃ ad, a = some ad ∧ ad.block < w.heap.size ∧ w.cell? (ad.add i) = some (.int k (z i))) ∧ (Lit.int k (z i)).wf = true := by
  refine choose_lt (α := Int) (p := fun i x => (∃ ad, a = some ad ∧ ad.block < w.heap.size ∧ w.cell? (ad.add i) = some (.int k x)) ∧ (Lit.int k x).wf = true) fun i hi => ?_
  obtain ⟨v, hv, n, y, hy⟩ := open_sl ht hc h i hi
  obtain ⟨x, hx, _, hw⟩ := DataW.trod_int he hy
  simp only [List.cons.injEq, and_true] at hx
  subst hx
  exact ⟨x, hv, hw⟩
theorem open_sl_bool {t e : TypeId} {a : Option Addr} {len cap : Nat} {d : DataW H} {ps : List MemPlace} (ht : P.underlying t = some (.slice e)) (he : P.underlying e = some .bool) (hc : P.cellsOf e = 1)
    (h : DataW.Trod enc P w base spare held t (.slice a len cap) d ps) :
    ∃ z : Nat → Bool, ∀ i, i < len → (∃ ad, a = some ad ∧ ad.block < w.heap.size ∧ w.cell? (ad.add i) = some (.bool (z i))) := by
  refine choose_lt (α := Bool) (p := fun i x => (∃ ad, a = some ad ∧ ad.block < w.heap.size ∧ w.cell? (ad.add i) = some (.bool x))) fun i hi => ?_
  obtain ⟨v, hv, n, y, hy⟩ := open_sl ht hc h i hi
  obtain ⟨x, hx, _⟩ := DataW.trod_bool he hy
  simp only [List.cons.injEq, and_true] at hx
  subst hx
  exact ⟨x, hv⟩
theorem open_sl_string {t e : TypeId} {a : Option Addr} {len cap : Nat} {d : DataW H} {ps : List MemPlace} (ht : P.underlying t = some (.slice e)) (he : P.underlying e = some .string) (hc : P.cellsOf e = 1)
    (h : DataW.Trod enc P w base spare held t (.slice a len cap) d ps) :
    ∃ z : Nat → ByteArray, ∀ i, i < len → (∃ ad, a = some ad ∧ ad.block < w.heap.size ∧ w.cell? (ad.add i) = some (.string (z i))) ∧ (z i).size ≤ maxLen := by
  refine choose_lt (α := ByteArray) (p := fun i x => (∃ ad, a = some ad ∧ ad.block < w.heap.size ∧ w.cell? (ad.add i) = some (.string x)) ∧ x.size ≤ maxLen) fun i hi => ?_
  obtain ⟨v, hv, n, y, hy⟩ := open_sl ht hc h i hi
  obtain ⟨x, hx, _, hw⟩ := DataW.trod_string he hy
  simp only [List.cons.injEq, and_true] at hx
  subst hx
  exact ⟨x, hv, hw⟩

/-- A slice of structs whose fields are one cell each. -/
theorem open_sl_fields {t e : TypeId} {fs : Array Field} {a : Option Addr} {len cap : Nat} {d : DataW H} {ps : List MemPlace} (ht : P.underlying t = some (.slice e)) (he : P.underlying e = some (.struct fs))
    (hone : oneCellFields P fs = true) (hC : P.cellsOf e = fs.size)
    (h : DataW.Trod enc P w base spare held t (.slice a len cap) d ps) :
    ∀ i, i < len → ∀ (j : Nat) (f : Field), fs[j]? = some f → ∃ v, (∃ ad, a = some ad ∧ ad.block < w.heap.size ∧ w.cell? (ad.add (i * fs.size + j)) = some v) ∧ ∃ n y, DataW.trod enc P w base spare held n f.type [v] = some y := by
  obtain ⟨fuel, hf⟩ := h
  rcases open_slice ht hf with ⟨hcs, _⟩ | ⟨x, l, c, m, n, D, Pl, hcs, _, hl, _, hm, _, hi⟩
  · simp [Value.cells] at hcs
    obtain ⟨rfl, rfl, rfl⟩ := hcs
    intro i hi
    exact absurd hi (Nat.not_lt_zero _)
  · simp [Value.cells] at hcs
    obtain ⟨rfl, rfl, rfl⟩ := hcs
    intro i hlt j f hj
    have hm' : i < m := by
      rw [hm]
      split <;> omega
    obtain ⟨cs', hc, ht'⟩ := hi i hm'
    rw [hC] at hc
    obtain ⟨ys, n', _, _, _, hyl, hg⟩ := DataW.trod_struct he ht'
    obtain ⟨_, hcl, hat⟩ := World.cells?_some hc
    obtain ⟨ho, hk⟩ := hone_of hone j f hj
    have hjl : j < fs.size := (Array.getElem?_eq_some_iff.1 hj).1
    have hcell := hat j hjl
    have h1 := hg j f hj
    rw [ho, hk] at h1
    have hv : cs'[j]? = some (cs'[j]'(by omega)) := List.getElem?_eq_getElem (by omega)
    have hone' : (cs'.drop j).take 1 = [cs'[j]'(by omega)] := by
      rw [List.drop_eq_getElem_cons (by omega)]
      rfl
    have hys : ys[j]? = some (ys[j]'(by omega)) := List.getElem?_eq_getElem (by omega)
    rw [hone', hys] at h1
    rw [Go.Deep.add_add, hv] at hcell
    have hb := lt_of_cell hcell
    rw [add_block] at hb
    exact ⟨_, ⟨x, rfl, hb, hcell⟩, n', _, h1⟩
end
end Go.Proofs.Ytaddhackggbdkaa
