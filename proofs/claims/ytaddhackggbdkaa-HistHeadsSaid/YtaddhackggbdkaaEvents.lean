/- How events among a law's arguments are opened; no condition. -/
import Derived.Test.YtaddhackggbdkaaHistAdd
namespace Go.Proofs.Ytaddhackggbdkaa
open Go.ChangeShapes Go.WideShapes Go.Deep Go.RowKit Go.Proofs.YtaddhackggbdkaaW.PrintWords Go.Proofs.YtaddhackggbdkaaW.PrintLast Go.Proofs.YtaddhackggbdkaaW.PrintMore PHistTells
/-- The events l lie at a, len of them, their numbers are numbers. -/
structure EvIn (w : World) (a : Option Addr) (len cap : Nat) (l : List S39) : Prop where
  size : l.length = len
  le : len ≤ cap
  none : a = none → cap = 0
  rd : Rd w a l
  wf : Wf l
theorem open_events {H : Type} {enc : TypeId × Value → H} {w : World} {base : Nat} {spare : Nat → Bool} {held : Bool} {a : Option Addr} {len cap : Nat} {d : DataW H} {ps : List MemPlace}
    (h : DataW.Trod enc Try.prog w base spare held 22 (.slice a len cap) d ps) : ∃ l : List S39, EvIn w a len cap l := by
  have key := open_sl_fields Try.underlying22 Try.underlying39 (by kernel_rfl) (by kernel_rfl) h
  have hle : len ≤ cap ∧ (a = none → cap = 0) := by
    obtain ⟨fuel, hf⟩ := h
    rcases open_slice Try.underlying22 hf with ⟨hcs, _⟩ | ⟨x, l, c, m, n, D, Pl, hcs, _, hl, hm, _⟩
    · simp [Value.cells] at hcs
      obtain ⟨rfl, rfl, rfl⟩ := hcs
      exact ⟨Nat.le_refl _, fun _ => rfl⟩
    · simp [Value.cells] at hcs
      obtain ⟨rfl, rfl, rfl⟩ := hcs
      exact ⟨hl, fun e => by cases e⟩
  have hb : ∀ i, i < len → ∃ x : S39, (∃ ad, a = some ad ∧ ad.block < w.heap.size ∧ ∀ j u, (ev x)[j]? = some u → w.cell? (ad.add (i * 5 + j)) = some u) ∧ (Lit.int .i64 x.f2).wf = true ∧ (Lit.int .i64 x.f3).wf = true := fun i hi => by
    obtain ⟨v0, ⟨ad, rfl, hlt, h0⟩, n0, y0, t0⟩ := key i hi 0 _ rfl
    obtain ⟨v1, ⟨ad1, e1, _, h1⟩, n1, y1, t1⟩ := key i hi 1 _ rfl
    obtain ⟨v2, ⟨ad2, e2, _, h2⟩, n2, y2, t2⟩ := key i hi 2 _ rfl
    obtain ⟨v3, ⟨ad3, e3, _, h3⟩, n3, y3, t3⟩ := key i hi 3 _ rfl
    obtain ⟨v4, ⟨ad4, e4, _, h4⟩, n4, y4, t4⟩ := key i hi 4 _ rfl
    injection e1 with e1
    injection e2 with e2
    injection e3 with e3
    injection e4 with e4
    subst e1 e2 e3 e4
    obtain ⟨x0, e0, _, w0⟩ := DataW.trod_int Try.underlying3 t0
    obtain ⟨x1, e1, _⟩ := DataW.trod_bool Try.underlying4 t1
    obtain ⟨x2, e2, _, w2⟩ := DataW.trod_int Try.underlying3 t2
    obtain ⟨x3, e3, _, w3⟩ := DataW.trod_int Try.underlying3 t3
    obtain ⟨x4, e4, _, w4⟩ := DataW.trod_int Try.underlying3 t4
    simp only [List.cons.injEq, and_true] at e0 e1 e2 e3 e4
    subst e0 e1 e2 e3 e4
    refine ⟨⟨x0, x1, x2, x3, x4⟩, ⟨ad, rfl, hlt, fun j u hj => ?_⟩, w2, w3⟩
    match j, hj with
    | 0, hj => simp only [ev, List.getElem?_cons_zero, Option.some.injEq] at hj; subst hj; exact h0
    | 1, hj => simp only [ev, List.getElem?_cons_succ, List.getElem?_cons_zero, Option.some.injEq] at hj; subst hj; exact h1
    | 2, hj => simp only [ev, List.getElem?_cons_succ, List.getElem?_cons_zero, Option.some.injEq] at hj; subst hj; exact h2
    | 3, hj => simp only [ev, List.getElem?_cons_succ, List.getElem?_cons_zero, Option.some.injEq] at hj; subst hj; exact h3
    | 4, hj => simp only [ev, List.getElem?_cons_succ, List.getElem?_cons_zero, Option.some.injEq] at hj; subst hj; exact h4
    | j + 5, hj => simp [ev] at hj
  have hin : Inhabited S39 := ⟨z39⟩
  obtain ⟨z, hz⟩ := choose_lt (α := S39) hb
  have hlen : ((List.range len).map z).length = len := by simp
  have hget : ∀ i x, ((List.range len).map z)[i]? = some x → i < len ∧ x = z i := fun i x hx => by
    have hi : i < len := by
      have := (List.getElem?_eq_some_iff.1 hx).1
      omega
    have : ((List.range len).map z)[i]? = some (z i) := by simp [hi]
    rw [this] at hx
    exact ⟨hi, (Option.some.inj hx).symm⟩
  refine ⟨(List.range len).map z, hlen, hle.1, hle.2, ?_, fun x hx => ?_⟩
  · rcases Nat.eq_zero_or_pos len with h0 | h0
    · subst h0
      exact .inl rfl
    · obtain ⟨⟨ad, rfl, hlt, _⟩, _⟩ := hz 0 h0
      refine .inr ⟨ad, rfl, hlt, fun k u hk => ?_⟩
      obtain ⟨x, h1, h2⟩ := evs_inv _ k u hk
      obtain ⟨hi, rfl⟩ := hget _ _ h1
      obtain ⟨⟨ad', e, _, hc⟩, _⟩ := hz _ hi
      injection e with e
      subst e
      have := hc _ _ h2
      rw [show k / 5 * 5 + k % 5 = k by omega] at this
      exact this
  · obtain ⟨i, hi, rfl⟩ := List.getElem_of_mem hx
    obtain ⟨hi', e⟩ := hget i _ (List.getElem?_eq_getElem hi)
    rw [e]
    exact (hz i hi').2
end Go.Proofs.Ytaddhackggbdkaa
