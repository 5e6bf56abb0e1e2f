/- How a list of acts among the arguments is opened: each act's kind, number and bytes; no condition. -/
import Derived.Test.YtakpmnlakgkgpaaNoth
namespace Go.Proofs.Ytakpmnlakgkgpaa
open Go.ChangeShapes Go.WideShapes Go.Deep Go.RowKit
/-- An act: its kind, its number, where its bytes lie (and the row's room), the bytes. -/
structure AV where
  K : Int
  N : Int
  A : Option Addr
  C : Nat
  P : List UInt8
  deriving Inhabited
/-- Act i of a list lies in the world w. -/
structure AIn (w : World) (ad : Addr) (i : Nat) (x : AV) : Prop where
  k : w.cell? (ad.add (i * 3)) = some (.int .i64 x.K)
  n : w.cell? (ad.add (i * 3 + 1)) = some (.int .i64 x.N)
  p : w.cell? (ad.add (i * 3 + 2)) = some (.slice x.A x.P.length x.C)
  hi : x.N ≤ 9223372036854775807
  len : x.P.length ≤ 140737488351232
  nil : x.A = none → x.C = 0
  src : Src w x.A x.P
  old : ∀ a, x.A = some a → x.P ≠ [] → a.block < w.heap.size
theorem weights_all {H : Type} {P : Program} {e : TypeId} : ∀ {l : List (DataW H)} {d : DataW H}, d ∈ l → ∀ n ∈ d.weights P e, n ∈ DataW.weightsAll P e l
  | x :: r, d, hd, n, hn => by
    simp only [DataW.weightsAll, List.mem_append]
    rcases List.mem_cons.1 hd with rfl | h
    · exact .inl hn
    · exact .inr (weights_all h n hn)
  | [], _, hd, _, _ => by cases hd
section
variable {H : Type} {enc : TypeId × Value → H} {P : Program} {w : World} {base : Nat} {spare : Nat → Bool} {held : Bool}
/-- A slice of structs whose fields are one cell each; each field's weights are among the slice's. -/
theorem open_sl_fieldsD {t e : TypeId} {fs : Array Field} {a : Option Addr} {len cap : Nat} {d : DataW H} {ps : List MemPlace} (ht : P.underlying t = some (.slice e)) (he : P.underlying e = some (.struct fs))
    (hone : oneCellFields P fs = true) (hC : P.cellsOf e = fs.size)
    (h : DataW.Trod enc P w base spare held t (.slice a len cap) d ps) :
    ∀ i, i < len → ∀ (j : Nat) (f : Field), fs[j]? = some f → ∃ v, (∃ ad, a = some ad ∧ ad.block < w.heap.size ∧ w.cell? (ad.add (i * fs.size + j)) = some v) ∧ ∃ n D y, DataW.trod enc P w base spare held n f.type [v] = some (D, y) ∧ ∀ m ∈ D.weights P f.type, m ∈ d.weights P t := by
  obtain ⟨fuel, hf⟩ := h
  rcases open_slice ht hf with ⟨hcs, _⟩ | ⟨x, l, c, m, n, D, Pl, hcs, _, hl, _, hm, hx, hi⟩
  · simp [Value.cells] at hcs
    obtain ⟨rfl, rfl, rfl⟩ := hcs
    intro i hi
    exact absurd hi (Nat.not_lt_zero _)
  · simp [Value.cells] at hcs
    obtain ⟨rfl, rfl, rfl⟩ := hcs
    intro i hlt j f hj
    have hm' : i < m := by
      rw [hm]
      split <;> omega
    obtain ⟨cs', hc, ht'⟩ := hi i hm'
    rw [hC] at hc
    obtain ⟨ys, n', _, hxy, _, hyl, hg⟩ := DataW.trod_struct he ht'
    obtain ⟨_, hcl, hat⟩ := World.cells?_some hc
    obtain ⟨ho, hk⟩ := hone_of hone j f hj
    have hjl : j < fs.size := (Array.getElem?_eq_some_iff.1 hj).1
    have hcell := hat j hjl
    have h1 := hg j f hj
    rw [ho, hk] at h1
    have hv : cs'[j]? = some (cs'[j]'(by omega)) := List.getElem?_eq_getElem (by omega)
    have hone' : (cs'.drop j).take 1 = [cs'[j]'(by omega)] := by
      rw [List.drop_eq_getElem_cons (by omega)]
      rfl
    have hys : ys[j]? = some (ys[j]'(by omega)) := List.getElem?_eq_getElem (by omega)
    rw [hone', hys] at h1
    rw [Go.Deep.add_add, hv] at hcell
    have hb := lt_of_cell hcell
    rw [add_block] at hb
    refine ⟨_, ⟨x, rfl, hb, hcell⟩, n', _, _, h1, fun k hk => ?_⟩
    have hd : d = .slice ((List.range len).map D) ((List.range (m - len)).map fun j => D (len + j)) := (Prod.mk.inj hx).1
    have hDi : D i = .agg (ys.map (·.1)) := (Prod.mk.inj hxy).1
    rw [hd]
    simp only [DataW.weights, ht, List.mem_cons, List.mem_append]
    refine .inr (.inl (weights_all (List.mem_map.2 ⟨i, List.mem_range.2 hlt, rfl⟩) k ?_))
    rw [hDi]
    simp only [DataW.weights, he]
    refine DataW.weights_mem_each (j := j) ?_ ?_ k hk
    · rw [List.getElem?_map, Array.getElem?_toList, hj]
      rfl
    · rw [List.getElem?_map, hys]
      rfl
end
theorem open_acts {H : Type} {enc : TypeId × Value → H} {w : World} {base : Nat} {spare : Nat → Bool} {held : Bool} {a : Option Addr} {len cap : Nat} {d : DataW H} {ps : List MemPlace} {ts : List TypeId} {ds : List (DataW H)} (j : Nat)
    (hsz : (DataW.weightsEach Try.prog ts ds).all (· ≤ reachBytes) = true) (hj : ts[j]? = some 33) (hd : ds[j]? = some d)
    (h : DataW.Trod enc Try.prog w base spare held 33 (.slice a len cap) d ps) :
    ∃ z : Nat → AV, ∀ i, i < len → ∃ ad, a = some ad ∧ ad.block < w.heap.size ∧ AIn w ad i (z i) := by
  refine choose_lt (α := AV) (p := fun i z => ∃ ad, a = some ad ∧ ad.block < w.heap.size ∧ AIn w ad i z) fun i hi => ?_
  have key := open_sl_fieldsD Try.underlying33 Try.underlying38 (by kernel_rfl) (by kernel_rfl) h i hi
  obtain ⟨v0, ⟨ad, rfl, hb, h0⟩, n0, D0, y0, t0, -⟩ := key 0 _ rfl
  obtain ⟨v1, ⟨ad1, e1, _, h1⟩, n1, D1, y1, t1, -⟩ := key 1 _ rfl
  obtain ⟨v2, ⟨ad2, e2, _, h2⟩, n2, D2, y2, t2, hw⟩ := key 2 _ rfl
  injection e1 with e1
  injection e2 with e2
  subst e1 e2
  obtain ⟨x0, e0, _⟩ := DataW.trod_int Try.underlying3 t0
  obtain ⟨x1, e1, _, w1⟩ := DataW.trod_int Try.underlying3 t1
  simp only [List.cons.injEq, and_true] at e0 e1
  subst e0 e1
  have hx1 : x1 ≤ 9223372036854775807 := by
    have : -9223372036854775808 ≤ x1 ∧ x1 ≤ 9223372036854775807 := by simpa [Lit.wf, IntKind.min, IntKind.max, IntKind.signed, IntKind.bits] using w1
    exact this.2
  rcases open_slice1 Try.underlying26 (by kernel_rfl) t2 with ⟨hv, _⟩ | ⟨b, l, c, m, n, V, D, Pl, hv, _, hl, _, hm, hx, hel⟩
  · simp only [List.cons.injEq, and_true] at hv
    subst hv
    exact ⟨⟨x0, x1, none, 0, []⟩, ad, rfl, hb, ⟨h0, h1, h2, hx1, by simp, fun _ => rfl, .inl ⟨rfl, rfl⟩, fun _ e => by cases e⟩⟩
  · simp only [List.cons.injEq, and_true] at hv
    subst hv
    have hlen : l ≤ 140737488351232 := by
      have hm1 : ((List.range l).length + ((List.range (m - l)).map fun j => D (l + j)).length) * Try.prog.bytesOf 5 ∈ d.weights Try.prog 33 := hw _ (by
        have hD : D2 = _ := (Prod.mk.inj hx).1
        show _ ∈ D2.weights Try.prog 26
        rw [hD]
        simp [DataW.weights, Try.underlying26])
      have := List.all_eq_true.1 hsz _ (DataW.weights_mem_each hj hd _ hm1)
      have hB : Try.prog.bytesOf 5 = 1 := by kernel_rfl
      rw [hB] at this
      have h3 : reachBytes = 140737488351232 := rfl
      simp [h3] at this
      omega
    have hz : ∀ i, i < l → ∃ x : Int, V i = .int .u8 x ∧ (Lit.int .u8 x).wf = true := fun i hi => by
      obtain ⟨-, h⟩ := hel i (by rw [hm]; split <;> omega)
      obtain ⟨x, e, _, hx⟩ := DataW.trod_int Try.underlying5 h
      simp only [List.cons.injEq, and_true] at e
      exact ⟨x, e, hx⟩
    obtain ⟨z, hz⟩ := choose_lt (α := Int) hz
    have hlenP : (byl z l).length = l := byl_length z l
    refine ⟨⟨x0, x1, some b, c, byl z l⟩, ad, rfl, hb, ⟨h0, h1, ?_, hx1, ?_, fun e => (by cases e), .inr ⟨b, rfl, fun j u hj => ?_⟩, fun a e hne => ?_⟩⟩
    · show _ = some (Value.slice (some b) (byl z l).length c)
      rw [hlenP]
      exact h2
    · show (byl z l).length ≤ _
      rw [hlenP]
      exact hlen
    · obtain ⟨hjn, rfl⟩ := byl_get (fun i hi => (hz i hi).2) hj
      rw [(hel j (by rw [hm]; split <;> omega)).1, (hz j hjn).1]
    · cases e
      have hl0 : 0 < l := by
        rcases Nat.eq_zero_or_pos l with h | h
        · subst h
          exact absurd rfl hne
        · exact h
      have := lt_of_cell (hel 0 (by rw [hm]; split <;> omega)).1
      rwa [add_block] at this
end Go.Proofs.Ytakpmnlakgkgpaa
