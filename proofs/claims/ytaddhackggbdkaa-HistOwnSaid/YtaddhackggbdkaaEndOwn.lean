/- HistOwn, as its row calls it; conditions: the events lie in the world. -/
import Derived.Test.YtaddhackggbdkaaOwn
namespace Go.Proofs.Ytaddhackggbdkaa
open Go.RowKit PHistTells
theorem own_row (a0 : Option Addr) (len0 cap0 : Nat) (z0 : List S39) (W : World) (g0 : EvIn W a0 len0 cap0 z0) (_ : len0 * 40 ≤ 140737488351232) :
    Calls Try.prog 5 #[.slice a0 len0 cap0] W fun e w' => e = .returned (.bool true) ∧ Below W.heap.size W w' := by
  obtain ⟨rfl, h2, h3, h4, h5⟩ := g0
  exact own_walk a0 cap0 z0 W h4 h2 h3 h5
end Go.Proofs.Ytaddhackggbdkaa
