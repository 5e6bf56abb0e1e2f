/- HistKeys, as its row calls it; conditions: the events lie in the world. -/
import Derived.Test.YtaddhackggbdkaaWalkKeys
import Derived.Test.YtaddhackggbdkaaEvents
namespace Go.Proofs.Ytaddhackggbdkaa
open Go.RowKit PHistTells
theorem keys_row (a0 : Option Addr) (len0 cap0 : Nat) (z0 : List S39) (a1 : Int) (W : World) (g0 : EvIn W a0 len0 cap0 z0) (_ : len0 * 40 ≤ 140737488351232) (_ : (Lit.int .i64 a1).wf = true) :
    Calls Try.prog 4 #[.slice a0 len0 cap0, .int .i64 a1] W fun e w' => e = .returned (.bool true) ∧ Below W.heap.size W w' := by
  obtain ⟨rfl, h2, h3, h4, h5⟩ := g0
  exact keys_walk a0 cap0 z0 a1 W h4 h2 h3
end Go.Proofs.Ytaddhackggbdkaa
