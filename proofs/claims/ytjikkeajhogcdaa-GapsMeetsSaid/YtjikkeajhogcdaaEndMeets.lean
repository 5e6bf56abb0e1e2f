/- GapsMeets answers true of whatever boxes; walked; conditions: they lie in the world. -/
import Derived.Test.YtjikkeajhogcdaaOv
namespace Go.Proofs.Ytjikkeajhogcdaa
open Go.RowKit Go.Proofs.YtjikkeajhogcdaaW.PrintWords Go.Proofs.YtjikkeajhogcdaaW.PrintLast Go.Proofs.YtjikkeajhogcdaaW.PrintMore PGapsTells
theorem meets_walk (A : Option Addr) (c : Nat) (l : List S25) (A0 : Option Addr) (c0 : Nat) (lo : List Int) (A1 : Option Addr) (c1 : Nat) (hi : List Int) (w : World)
    (gl : l.length ≤ c) (hl : Kd.C k25 w A l.length l) (g0 : lo.length ≤ c0) (h0 : Kd.C (Kd.int .i64) w A0 lo.length lo) (g1 : hi.length ≤ c1) (h1 : Kd.C (Kd.int .i64) w A1 hi.length hi) :
    Calls Try.prog 6 #[.slice A l.length c, .agg #[.slice A0 lo.length c0, .slice A1 hi.length c1]] w fun e w' => e = .returned (.bool true) ∧ Below w.heap.size w w' := by
  obtain ⟨k, hk⟩ := meets_true l lo hi
  exact dossierlaw9_GapsMeets.calls k A c l A0 c0 lo A1 c1 hi true w hl gl h0 g0 h1 g1 (Aside0.mk rfl) hk
end Go.Proofs.Ytjikkeajhogcdaa
