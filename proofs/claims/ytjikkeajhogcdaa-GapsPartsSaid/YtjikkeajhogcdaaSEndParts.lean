/- GapsParts answers true of whatever input; the pure statement, and the walk; no condition. -/
import Derived.Test.YtjikkeajhogcdaaSParts
import Derived.Test.YtjikkeajhogcdaaSWalkParts
namespace Go.Proofs.Ytjikkeajhogcdaa
theorem parts_pure : PGapsTells.dossierlaw9_GapsParts.Pure := fun hi cuts gone _ _ _ _ _ => parts_true hi cuts gone
end Go.Proofs.Ytjikkeajhogcdaa
