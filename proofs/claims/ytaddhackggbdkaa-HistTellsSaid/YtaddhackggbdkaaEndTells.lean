/- HistTells, as its row calls it; conditions: the events lie in the world. -/
import Derived.Test.YtaddhackggbdkaaTells
import Derived.Test.YtaddhackggbdkaaEvents
namespace Go.Proofs.Ytaddhackggbdkaa
open Go.RowKit PHistTells
theorem tells_row (a0 : Option Addr) (len0 cap0 : Nat) (z0 : List S39) (a1 : Int) (a2 : Bool) (a3 a4 a5 a6 : Int) (W : World) (g0 : EvIn W a0 len0 cap0 z0) (_ : len0 * 40 ≤ 140737488351232)
    (_ : (Lit.int .i64 a1).wf = true) (w3 : (Lit.int .i64 a3).wf = true) (w4 : (Lit.int .i64 a4).wf = true) (_ : (Lit.int .i64 a5).wf = true) (_ : (Lit.int .i64 a6).wf = true) :
    Calls Try.prog 3 #[.slice a0 len0 cap0, .int .i64 a1, .bool a2, .int .i64 a3, .int .i64 a4, .int .i64 a5, .int .i64 a6] W fun e w' => e = .returned (.bool true) ∧ Below W.heap.size W w' := by
  obtain ⟨rfl, h2, h3, h4, h5⟩ := g0
  exact tells_walk a0 cap0 z0 a1 a2 a3 a4 a5 a6 W h4 h2 h3 h5 w3 w4
end Go.Proofs.Ytaddhackggbdkaa
