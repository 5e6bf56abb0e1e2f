/- How boxes among a law's arguments are opened; no condition. -/
import Derived.Test.YtjikkeajhogcdaaKnown
namespace Go.Proofs.Ytjikkeajhogcdaa
open Go.ChangeShapes Go.WideShapes Go.Deep Go.RowKit Go.Proofs.YtjikkeajhogcdaaW.PrintWords Go.Proofs.YtjikkeajhogcdaaW.PrintLast Go.Proofs.YtjikkeajhogcdaaW.PrintMore PGapsTells
section
variable {H : Type} {enc : TypeId × Value → H} {w : World} {base : Nat} {spare : Nat → Bool} {held : Bool}
theorem nil_C {α : Type} (k : Kd α) (w : World) (A : Option Addr) : Kd.C k w A 0 [] := ⟨rfl, by omega, fun h => absurd h (by omega)⟩
theorem open_ints {n : Nat} {v : Value} {y : DataW H × List MemPlace} (h : DataW.trod enc Try.prog w base spare held n 22 [v] = some y) :
    ∃ A c, ∃ l : List Int, v = .slice A l.length c ∧ l.length ≤ c ∧ Kd.C (Kd.int .i64) w A l.length l := by
  rcases open_slice1 Try.underlying22 (by kernel_rfl) h with ⟨hv, _⟩ | ⟨b, l, c, m, n, V, D, Pl, hv, _, hl, hm, hmm, hx, hel⟩
  · simp only [List.cons.injEq, and_true] at hv
    subst hv
    exact ⟨none, 0, [], rfl, Nat.le_refl _, nil_C _ _ _⟩
  · simp only [List.cons.injEq, and_true] at hv
    subst hv
    have hz : ∀ i, i < l → ∃ x : Int, w.cell? (b.add i) = some (.int .i64 x) := fun i hi => by
      obtain ⟨h1, h2⟩ := hel i (by rw [hmm]; split <;> omega)
      obtain ⟨x, e, _, hx⟩ := DataW.trod_int Try.underlying3 h2
      simp only [List.cons.injEq, and_true] at e
      exact ⟨x, by rw [h1, e]⟩
    obtain ⟨z, hz⟩ := choose_lt (α := Int) hz
    have hlen : ((List.range l).map z).length = l := by simp
    refine ⟨some b, c, (List.range l).map z, by rw [hlen], by rw [hlen]; exact hl, rfl, ?_, fun _ => ⟨b, rfl, fun j x hj => ⟨[.int .i64 x], rfl, rfl, fun i u hi => ?_⟩⟩⟩
    · rw [hlen]
      have hM : maxLen ≤ 9223372036854775807 := by decide
      omega
    · have hjl : j < l := by
        have := (List.getElem?_eq_some_iff.1 hj).1
        omega
      have hx : z j = x := by
        have : ((List.range l).map z)[j]? = some (z j) := by simp [hjl]
        rw [this] at hj
        exact Option.some.inj hj
      cases i with
      | zero =>
        simp only [List.getElem?_cons_zero, Option.some.injEq] at hi
        subst hi
        have hsz : (Kd.int .i64).sz = 1 := rfl
        rw [hsz, Nat.mul_one]
        rw [← hx]
        exact hz j hjl
      | succ i => simp at hi
theorem open_ints' {a : Option Addr} {len cap : Nat} {d : DataW H} {ps : List MemPlace} (h : DataW.Trod enc Try.prog w base spare held 22 (.slice a len cap) d ps) :
    ∃ l : List Int, l.length = len ∧ l.length ≤ cap ∧ Kd.C (Kd.int .i64) w a l.length l := by
  obtain ⟨fuel, hf⟩ := h
  obtain ⟨A, c, l, hv, hl, hC⟩ := open_ints (v := .slice a len cap) hf
  injection hv with e1 e2 e3
  subst e1 e2 e3
  exact ⟨l, rfl, hl, hC⟩
theorem open_boxes {a : Option Addr} {len cap : Nat} {d : DataW H} {ps : List MemPlace} (h : DataW.Trod enc Try.prog w base spare held 23 (.slice a len cap) d ps) :
    ∃ l : List S25, l.length = len ∧ l.length ≤ cap ∧ Kd.C k25 w a l.length l := by
  have key := open_sl_fields Try.underlying23 Try.underlying25 (by kernel_rfl) (by kernel_rfl) h
  have hle : len ≤ cap ∧ cap ≤ maxLen := by
    obtain ⟨fuel, hf⟩ := h
    rcases open_slice Try.underlying23 hf with ⟨hcs, _⟩ | ⟨x, l, c, m, n, D, Pl, hcs, _, hl, hm, _⟩
    · simp [Value.cells] at hcs
      obtain ⟨rfl, rfl, rfl⟩ := hcs
      exact ⟨Nat.le_refl _, by decide⟩
    · simp [Value.cells] at hcs
      obtain ⟨rfl, rfl, rfl⟩ := hcs
      exact ⟨hl, hm⟩
  have hb : ∀ i, i < len → ∃ b : S25, ∃ ad, a = some ad ∧ ∃ A0 c0 A1 c1, w.cell? (ad.add (i * 2)) = some (.slice A0 b.f0.length c0) ∧ w.cell? (ad.add (i * 2 + 1)) = some (.slice A1 b.f1.length c1) ∧ b.f0.length ≤ c0 ∧ Kd.C (Kd.int .i64) w A0 b.f0.length b.f0 ∧ b.f1.length ≤ c1 ∧ Kd.C (Kd.int .i64) w A1 b.f1.length b.f1 := fun i hi => by
    obtain ⟨v0, ⟨ad, rfl, _, h0⟩, n0, y0, t0⟩ := key i hi 0 _ rfl
    obtain ⟨v1, ⟨ad1, e1, _, h1⟩, n1, y1, t1⟩ := key i hi 1 _ rfl
    injection e1 with e1
    subst e1
    obtain ⟨A0, c0, l0, rfl, g0, C0⟩ := open_ints t0
    obtain ⟨A1, c1, l1, rfl, g1, C1⟩ := open_ints t1
    exact ⟨⟨l0, l1⟩, ad, rfl, A0, c0, A1, c1, h0, h1, g0, C0, g1, C1⟩
  have hin : Inhabited S25 := ⟨z25⟩
  obtain ⟨z, hz⟩ := choose_lt (α := S25) hb
  have hlen : ((List.range len).map z).length = len := by simp
  refine ⟨(List.range len).map z, hlen, by rw [hlen]; exact hle.1, rfl, ?_, fun h0 => ?_⟩
  · rw [hlen]
    have hM : maxLen ≤ 9223372036854775807 := by decide
    omega
  · rw [hlen] at h0
    obtain ⟨ad, rfl, _⟩ := hz 0 h0
    refine ⟨ad, rfl, fun j x hj => ?_⟩
    have hjl : j < len := by
      have := (List.getElem?_eq_some_iff.1 hj).1
      omega
    have hx : z j = x := by
      have : ((List.range len).map z)[j]? = some (z j) := by simp [hjl]
      rw [this] at hj
      exact Option.some.inj hj
    subst hx
    obtain ⟨ad', e, A0, c0, A1, c1, h1, h2, l0, g0, l1, g1⟩ := hz j hjl
    injection e with e
    subst e
    refine ⟨[.slice A0 (z j).f0.length c0, .slice A1 (z j).f1.length c1], rfl, k25_mk w (z j) l0 g0 l1 g1, fun i u hi => ?_⟩
    have hsz : k25.sz = 2 := rfl
    rw [hsz]
    match i, hi with
    | 0, hi =>
      simp only [List.getElem?_cons_zero, Option.some.injEq] at hi
      subst hi
      exact h1
    | 1, hi =>
      simp only [List.getElem?_cons_succ, List.getElem?_cons_zero, Option.some.injEq] at hi
      subst hi
      exact h2
    | i + 2, hi => simp at hi
theorem open_box {v : Value} {d : DataW H} {ps : List MemPlace} {r : Reach} {b0 : Nat} (hk : Value.okWide Try.prog w r b0 25 v) (h : DataW.Trod enc Try.prog w base spare held 25 v d ps) :
    ∃ A0 c0, ∃ lo : List Int, ∃ A1 c1, ∃ hi : List Int, v = .agg #[.slice A0 lo.length c0, .slice A1 hi.length c1] ∧ lo.length ≤ c0 ∧ Kd.C (Kd.int .i64) w A0 lo.length lo ∧ hi.length ≤ c1 ∧ Kd.C (Kd.int .i64) w A1 hi.length hi := by
  obtain ⟨cs, rfl, hcs⟩ := okWide_struct Try.underlying25 hk
  have h2 : Try.prog.cellsOf 25 = 2 := by kernel_rfl
  rw [h2] at hcs
  obtain ⟨x, y, rfl⟩ : ∃ x y, cs = #[x, y] := by
    obtain ⟨l⟩ := cs
    match l, hcs with
    | [x, y], _ => exact ⟨x, y, rfl⟩
  obtain ⟨fuel, hf⟩ := h
  obtain ⟨y0, y1, n, _, _, t0, t1⟩ := trod_struct2 Try.underlying25 hf
  have h1 : Try.prog.cellsOf 22 = 1 := by kernel_rfl
  obtain ⟨A0, c0, l0, rfl, g0, C0⟩ := open_ints (v := x) t0
  obtain ⟨A1, c1, l1, rfl, g1, C1⟩ := open_ints (v := y) t1
  exact ⟨A0, c0, l0, A1, c1, l1, rfl, g0, C0, g1, C1⟩
end
end Go.Proofs.Ytjikkeajhogcdaa
