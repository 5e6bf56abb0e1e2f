/-
  No cell of these rows narrows 'for every input' (looked for: loops, veiled, ifaces, maps, wideKeys, modest, calm, conditions, laid).
  DERIVED. THE GIVEN ROWS OF THIS SEAT. 4 by the template 'for every input the law returns true; each argument reads behind the call as it read before'; 0 by the template 'total and deterministic' (their statements: YtjikkeajhogcdaaTotals.lean).
  GIVEN WITH THE SEED: the statements are not yours to turn. If you find one false, say at which input.
  Laid BY PROGRAM, IN A SANDBOX (cutbox-rows.mjs): the forced cells as the released guide's own fill.sh prints them over the translation 8b251159316c2604… (all of the seat's roots in one cut). By AI agents, Wed Nov 11 2026. No macro, syntax, notation, axiom, sorry.
-/
import Derived.Test.YtjikkeajhogcdaaChecked
import GoSem.Claim
import GoSem.ClaimJoined
import GoSem.ClaimMapViews
import Derived.JoinedTies
import Derived.KernelRfl
namespace Go.Proofs.Ytjikkeajhogcdaa
/- THE CELL 'sum', in the pinned program and in every row, IS THE sha256 OF THE DUMP (.gsa) THAT YtjikkeajhogcdaaProg.lean LOADS. Nothing in Lean hashes anything: it is a label: what it is worth is what the hold of that sum in a sandbox is worth. -/
noncomputable def Try.pinned : Pinned := { name := "ytjikkeajhogcdaa", sum := "8b251159316c260404aac7856bfd746030a744a80a457ec4c27a42bc8af741ac", checked := Try.checked }
namespace Rows
def none {H : Type} : Left H := { results := [], args := [] }

/-- 'dossierlaw9.GapsParts': WHATEVER THE INPUT: true; the input reads as it did. -/
def gapsPartsSpec : ChangeSpec := { name := "gapsParts", fn := fun _ => fun
  | [d1, d2, d3] => { results := [.lit (.bool true)], args := [d1, d2, d3] }
  | _ => none }
def gapsPartsRow : OpenClaim := { program := "ytjikkeajhogcdaa", sum := "8b251159316c260404aac7856bfd746030a744a80a457ec4c27a42bc8af741ac", func := "dossier/dossierlaw9.GapsParts", spec := "gapsParts", unfollowed := true, recurses := true, apart := false }
def GapsPartsSaid : Prop := gapsPartsRow.holds Try.pinned (OpenSpec.ofChange gapsPartsSpec)

/-- ITS FALSE NEIGHBOUR: 'it returns false'. Refute it at one input. -/
def gapsPartsWrong : ChangeSpec := { name := "gapsParts", fn := fun _ => fun
  | [d1, d2, d3] => { results := [.lit (.bool false)], args := [d1, d2, d3] }
  | _ => none }
def GapsPartsWrongFalsely : Prop := gapsPartsRow.holds Try.pinned (OpenSpec.ofChange gapsPartsWrong)

/-- 'dossierlaw9.GapsTells': WHATEVER THE INPUT: true; the input reads as it did. -/
def gapsTellsSpec : ChangeSpec := { name := "gapsTells", fn := fun _ => fun
  | [d1, d2, d3] => { results := [.lit (.bool true)], args := [d1, d2, d3] }
  | _ => none }
def gapsTellsRow : OpenClaim := { program := "ytjikkeajhogcdaa", sum := "8b251159316c260404aac7856bfd746030a744a80a457ec4c27a42bc8af741ac", func := "dossier/dossierlaw9.GapsTells", spec := "gapsTells", unfollowed := true, recurses := true, apart := false }
def GapsTellsSaid : Prop := gapsTellsRow.holds Try.pinned (OpenSpec.ofChange gapsTellsSpec)

/-- ITS FALSE NEIGHBOUR: 'it returns false'. Refute it at one input. -/
def gapsTellsWrong : ChangeSpec := { name := "gapsTells", fn := fun _ => fun
  | [d1, d2, d3] => { results := [.lit (.bool false)], args := [d1, d2, d3] }
  | _ => none }
def GapsTellsWrongFalsely : Prop := gapsTellsRow.holds Try.pinned (OpenSpec.ofChange gapsTellsWrong)

/-- 'dossierlaw9.GapsHoles': WHATEVER THE INPUT: true; the input reads as it did. -/
def gapsHolesSpec : ChangeSpec := { name := "gapsHoles", fn := fun _ => fun
  | [d1, d2, d3] => { results := [.lit (.bool true)], args := [d1, d2, d3] }
  | _ => none }
def gapsHolesRow : OpenClaim := { program := "ytjikkeajhogcdaa", sum := "8b251159316c260404aac7856bfd746030a744a80a457ec4c27a42bc8af741ac", func := "dossier/dossierlaw9.GapsHoles", spec := "gapsHoles", unfollowed := true, recurses := true, apart := false }
def GapsHolesSaid : Prop := gapsHolesRow.holds Try.pinned (OpenSpec.ofChange gapsHolesSpec)

/-- ITS FALSE NEIGHBOUR: 'it returns false'. Refute it at one input. -/
def gapsHolesWrong : ChangeSpec := { name := "gapsHoles", fn := fun _ => fun
  | [d1, d2, d3] => { results := [.lit (.bool false)], args := [d1, d2, d3] }
  | _ => none }
def GapsHolesWrongFalsely : Prop := gapsHolesRow.holds Try.pinned (OpenSpec.ofChange gapsHolesWrong)

/-- 'dossierlaw9.GapsMeets': WHATEVER THE INPUT: true; the input reads as it did. -/
def gapsMeetsSpec : ChangeSpec := { name := "gapsMeets", fn := fun _ => fun
  | [d1, d2] => { results := [.lit (.bool true)], args := [d1, d2] }
  | _ => none }
def gapsMeetsRow : OpenClaim := { program := "ytjikkeajhogcdaa", sum := "8b251159316c260404aac7856bfd746030a744a80a457ec4c27a42bc8af741ac", func := "dossier/dossierlaw9.GapsMeets", spec := "gapsMeets", unfollowed := true, recurses := true, apart := false }
def GapsMeetsSaid : Prop := gapsMeetsRow.holds Try.pinned (OpenSpec.ofChange gapsMeetsSpec)

/-- ITS FALSE NEIGHBOUR: 'it returns false'. Refute it at one input. -/
def gapsMeetsWrong : ChangeSpec := { name := "gapsMeets", fn := fun _ => fun
  | [d1, d2] => { results := [.lit (.bool false)], args := [d1, d2] }
  | _ => none }
def GapsMeetsWrongFalsely : Prop := gapsMeetsRow.holds Try.pinned (OpenSpec.ofChange gapsMeetsWrong)

/- THE SECOND FORM. 'bulk': how many values and letters a reading holds, each counted each time it is reached (what is shared counts as often as it is met; a slice's spare places count too). A statement '..UptoSaid' is the law's where the arguments, and the package variables that the reading takes, are together of bulk at most 1048576: NARROWER than '..Said'. Prove '..Said' where nothing that the law and all that it calls make is longer than what came in: it says more and counts as full. Else prove '..UptoSaid'. A law counts once. -/
mutual
def uptoBulk {H : Type} : DataW H → Nat
  | .lit (.string bytes) => bytes.length + 1
  | .lit _ => 1
  | .nil => 1
  | .ptr d => uptoBulk d + 1
  | .slice elems spare => uptoBulkAll elems + uptoBulkAll spare + 1
  | .agg parts => uptoBulkAll parts + 1
  | .iface _ d => uptoBulk d + 1
  | .map entries => uptoBulkEntries entries + 1
  | .held _ => 1
def uptoBulkAll {H : Type} : List (DataW H) → Nat
  | [] => 0
  | d :: r => uptoBulk d + uptoBulkAll r
def uptoBulkEntries {H : Type} : List (Lit × DataW H) → Nat
  | [] => 0
  | x :: r => uptoBulkEntry x + uptoBulkEntries r
def uptoBulkEntry {H : Type} : Lit × DataW H → Nat
  | (.string bytes, d) => bytes.length + uptoBulk d + 1
  | (_, d) => uptoBulk d + 1
 end
def uptoSmall : (H : Type) → List (DataW H) → Bool := fun _ ds => decide (uptoBulkAll ds ≤ 1048576)
def OpenSpec.upto (s : _root_.Go.ChangeSpec) : _root_.Go.OpenSpec := { _root_.Go.OpenSpec.ofChange s with cond := some uptoSmall }

/-- 'dossierlaw9.GapsParts', WHERE WHAT IT READS IS OF BULK AT MOST 1048576: true; the input reads as it did. -/
def gapsPartsUptoRow : OpenClaim := { program := "ytjikkeajhogcdaa", sum := "8b251159316c260404aac7856bfd746030a744a80a457ec4c27a42bc8af741ac", func := "dossier/dossierlaw9.GapsParts", spec := "gapsParts", unfollowed := true, recurses := true, apart := false, narrowed := true }
def GapsPartsUptoSaid : Prop := gapsPartsUptoRow.holds Try.pinned (OpenSpec.upto gapsPartsSpec)

/-- 'dossierlaw9.GapsTells', WHERE WHAT IT READS IS OF BULK AT MOST 1048576: true; the input reads as it did. -/
def gapsTellsUptoRow : OpenClaim := { program := "ytjikkeajhogcdaa", sum := "8b251159316c260404aac7856bfd746030a744a80a457ec4c27a42bc8af741ac", func := "dossier/dossierlaw9.GapsTells", spec := "gapsTells", unfollowed := true, recurses := true, apart := false, narrowed := true }
def GapsTellsUptoSaid : Prop := gapsTellsUptoRow.holds Try.pinned (OpenSpec.upto gapsTellsSpec)

/-- 'dossierlaw9.GapsHoles', WHERE WHAT IT READS IS OF BULK AT MOST 1048576: true; the input reads as it did. -/
def gapsHolesUptoRow : OpenClaim := { program := "ytjikkeajhogcdaa", sum := "8b251159316c260404aac7856bfd746030a744a80a457ec4c27a42bc8af741ac", func := "dossier/dossierlaw9.GapsHoles", spec := "gapsHoles", unfollowed := true, recurses := true, apart := false, narrowed := true }
def GapsHolesUptoSaid : Prop := gapsHolesUptoRow.holds Try.pinned (OpenSpec.upto gapsHolesSpec)

/-- 'dossierlaw9.GapsMeets', WHERE WHAT IT READS IS OF BULK AT MOST 1048576: true; the input reads as it did. -/
def gapsMeetsUptoRow : OpenClaim := { program := "ytjikkeajhogcdaa", sum := "8b251159316c260404aac7856bfd746030a744a80a457ec4c27a42bc8af741ac", func := "dossier/dossierlaw9.GapsMeets", spec := "gapsMeets", unfollowed := true, recurses := true, apart := false, narrowed := true }
def GapsMeetsUptoSaid : Prop := gapsMeetsUptoRow.holds Try.pinned (OpenSpec.upto gapsMeetsSpec)

end Rows
end Go.Proofs.Ytjikkeajhogcdaa
