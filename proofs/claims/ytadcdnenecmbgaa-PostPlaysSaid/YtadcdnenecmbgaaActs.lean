/- How a list of acts among the arguments is opened: each act's three numbers; no condition. -/
import Derived.Test.YtadcdnenecmbgaaOpen
import Derived.Test.YtadcdnenecmbgaaChecked
import Derived.KernelRfl
namespace Go.Proofs.Ytadcdnenecmbgaa
open Go.ChangeShapes Go.WideShapes Go.Deep Go.RowKit
theorem open_acts {H : Type} {enc : TypeId × Value → H} {w : World} {base : Nat} {spare : Nat → Bool} {held : Bool} {a : Option Addr} {len cap : Nat} {d : DataW H} {ps : List MemPlace}
    (h : DataW.Trod enc Try.prog w base spare held 42 (.slice a len cap) d ps) :
    ∃ z : Nat → Int × Int × Int, ∀ i, i < len → ∃ ad, a = some ad ∧ ad.block < w.heap.size ∧ w.cell? (ad.add (i * 3)) = some (.int .i64 (z i).1) ∧ w.cell? (ad.add (i * 3 + 1)) = some (.int .i64 (z i).2.1) ∧ w.cell? (ad.add (i * 3 + 2)) = some (.int .i64 (z i).2.2) := by
  refine choose_lt (α := Int × Int × Int) (p := fun i z => ∃ ad, a = some ad ∧ ad.block < w.heap.size ∧ w.cell? (ad.add (i * 3)) = some (.int .i64 z.1) ∧ w.cell? (ad.add (i * 3 + 1)) = some (.int .i64 z.2.1) ∧ w.cell? (ad.add (i * 3 + 2)) = some (.int .i64 z.2.2)) fun i hi => ?_
  have key := open_sl_fields Try.underlying42 Try.underlying47 (by kernel_rfl) (by kernel_rfl) h i hi
  obtain ⟨v0, ⟨ad, rfl, hb, h0⟩, n0, y0, t0⟩ := key 0 _ rfl
  obtain ⟨v1, ⟨ad1, e1, _, h1⟩, n1, y1, t1⟩ := key 1 _ rfl
  obtain ⟨v2, ⟨ad2, e2, _, h2⟩, n2, y2, t2⟩ := key 2 _ rfl
  injection e1 with e1
  injection e2 with e2
  subst e1 e2
  obtain ⟨x0, e0, _⟩ := DataW.trod_int Try.underlying3 t0
  obtain ⟨x1, e1, _⟩ := DataW.trod_int Try.underlying3 t1
  obtain ⟨x2, e2, _⟩ := DataW.trod_int Try.underlying3 t2
  simp only [List.cons.injEq, and_true] at e0 e1 e2
  subst e0 e1 e2
  exact ⟨⟨x0, x1, x2⟩, ad, rfl, hb, h0, h1, h2⟩
end Go.Proofs.Ytadcdnenecmbgaa
