/-
  No cell of these rows narrows 'for every input' (looked for: loops, veiled, ifaces, maps, wideKeys, modest, calm, conditions, laid).
  DERIVED. THE GIVEN ROWS OF THIS SEAT. 6 by the template 'for every input the law returns true; each argument reads behind the call as it read before'; 0 by the template 'total and deterministic' (their statements: YtakpmnlakgkgpaaTotals.lean).
  GIVEN WITH THE SEED: the statements are not yours to turn. If you find one false, say at which input.
  Laid BY PROGRAM, IN A SANDBOX (cutbox-rows.mjs): the forced cells as the released guide's own fill.sh prints them over the translation c5dcd324866dc046… (all of the seat's roots in one cut). By AI agents, Wed Nov 11 2026. No macro, syntax, notation, axiom, sorry.
-/
import Derived.Test.YtakpmnlakgkgpaaChecked
import GoSem.Claim
import GoSem.ClaimJoined
import GoSem.ClaimMapViews
import Derived.JoinedTies
import Derived.KernelRfl
namespace Go.Proofs.Ytakpmnlakgkgpaa
/- THE CELL 'sum', in the pinned program and in every row, IS THE sha256 OF THE DUMP (.gsa) THAT YtakpmnlakgkgpaaProg.lean LOADS. Nothing in Lean hashes anything: it is a label: what it is worth is what the hold of that sum in a sandbox is worth. -/
noncomputable def Try.pinned : Pinned := { name := "ytakpmnlakgkgpaa", sum := "c5dcd324866dc046525e8f7bbb412d279949dcff726c2458425935208263bf4c", checked := Try.checked }
namespace Rows
def none {H : Type} : Left H := { results := [], args := [] }

/-- 'dossierlaw18.StripFull': WHATEVER THE INPUT: true; the input reads as it did. -/
def stripFullSpec : ChangeSpec := { name := "stripFull", fn := fun _ => fun
  | [d1, d2, d3] => { results := [.lit (.bool true)], args := [d1, d2, d3] }
  | _ => none }
def stripFullRow : OpenClaim := { program := "ytakpmnlakgkgpaa", sum := "c5dcd324866dc046525e8f7bbb412d279949dcff726c2458425935208263bf4c", func := "dossier/dossierlaw18.StripFull", spec := "stripFull", apart := false }
def StripFullSaid : Prop := stripFullRow.holds Try.pinned (OpenSpec.ofChange stripFullSpec)

/-- ITS FALSE NEIGHBOUR: 'it returns false'. Refute it at one input. -/
def stripFullWrong : ChangeSpec := { name := "stripFull", fn := fun _ => fun
  | [d1, d2, d3] => { results := [.lit (.bool false)], args := [d1, d2, d3] }
  | _ => none }
def StripFullWrongFalsely : Prop := stripFullRow.holds Try.pinned (OpenSpec.ofChange stripFullWrong)

/-- 'dossierlaw18.StripCuts': WHATEVER THE INPUT: true; the input reads as it did. -/
def stripCutsSpec : ChangeSpec := { name := "stripCuts", fn := fun _ => fun
  | [d1, d2, d3] => { results := [.lit (.bool true)], args := [d1, d2, d3] }
  | _ => none }
def stripCutsRow : OpenClaim := { program := "ytakpmnlakgkgpaa", sum := "c5dcd324866dc046525e8f7bbb412d279949dcff726c2458425935208263bf4c", func := "dossier/dossierlaw18.StripCuts", spec := "stripCuts", apart := false }
def StripCutsSaid : Prop := stripCutsRow.holds Try.pinned (OpenSpec.ofChange stripCutsSpec)

/-- ITS FALSE NEIGHBOUR: 'it returns false'. Refute it at one input. -/
def stripCutsWrong : ChangeSpec := { name := "stripCuts", fn := fun _ => fun
  | [d1, d2, d3] => { results := [.lit (.bool false)], args := [d1, d2, d3] }
  | _ => none }
def StripCutsWrongFalsely : Prop := stripCutsRow.holds Try.pinned (OpenSpec.ofChange stripCutsWrong)

/-- 'dossierlaw18.StripPlays': WHATEVER THE INPUT: true; the input reads as it did. -/
def stripPlaysSpec : ChangeSpec := { name := "stripPlays", fn := fun _ => fun
  | [d1, d2] => { results := [.lit (.bool true)], args := [d1, d2] }
  | _ => none }
def stripPlaysRow : OpenClaim := { program := "ytakpmnlakgkgpaa", sum := "c5dcd324866dc046525e8f7bbb412d279949dcff726c2458425935208263bf4c", func := "dossier/dossierlaw18.StripPlays", spec := "stripPlays", apart := false }
def StripPlaysSaid : Prop := stripPlaysRow.holds Try.pinned (OpenSpec.ofChange stripPlaysSpec)

/-- ITS FALSE NEIGHBOUR: 'it returns false'. Refute it at one input. -/
def stripPlaysWrong : ChangeSpec := { name := "stripPlays", fn := fun _ => fun
  | [d1, d2] => { results := [.lit (.bool false)], args := [d1, d2] }
  | _ => none }
def StripPlaysWrongFalsely : Prop := stripPlaysRow.holds Try.pinned (OpenSpec.ofChange stripPlaysWrong)

/-- 'dossierlaw18.StripCrashes': WHATEVER THE INPUT: true; the input reads as it did. -/
def stripCrashesSpec : ChangeSpec := { name := "stripCrashes", fn := fun _ => fun
  | [d1, d2] => { results := [.lit (.bool true)], args := [d1, d2] }
  | _ => none }
def stripCrashesRow : OpenClaim := { program := "ytakpmnlakgkgpaa", sum := "c5dcd324866dc046525e8f7bbb412d279949dcff726c2458425935208263bf4c", func := "dossier/dossierlaw18.StripCrashes", spec := "stripCrashes", apart := false }
def StripCrashesSaid : Prop := stripCrashesRow.holds Try.pinned (OpenSpec.ofChange stripCrashesSpec)

/-- ITS FALSE NEIGHBOUR: 'it returns false'. Refute it at one input. -/
def stripCrashesWrong : ChangeSpec := { name := "stripCrashes", fn := fun _ => fun
  | [d1, d2] => { results := [.lit (.bool false)], args := [d1, d2] }
  | _ => none }
def StripCrashesWrongFalsely : Prop := stripCrashesRow.holds Try.pinned (OpenSpec.ofChange stripCrashesWrong)

/-- 'dossierlaw18.StripFuses': WHATEVER THE INPUT: true; the input reads as it did. -/
def stripFusesSpec : ChangeSpec := { name := "stripFuses", fn := fun _ => fun
  | [d1, d2] => { results := [.lit (.bool true)], args := [d1, d2] }
  | _ => none }
def stripFusesRow : OpenClaim := { program := "ytakpmnlakgkgpaa", sum := "c5dcd324866dc046525e8f7bbb412d279949dcff726c2458425935208263bf4c", func := "dossier/dossierlaw18.StripFuses", spec := "stripFuses", apart := false }
def StripFusesSaid : Prop := stripFusesRow.holds Try.pinned (OpenSpec.ofChange stripFusesSpec)

/-- ITS FALSE NEIGHBOUR: 'it returns false'. Refute it at one input. -/
def stripFusesWrong : ChangeSpec := { name := "stripFuses", fn := fun _ => fun
  | [d1, d2] => { results := [.lit (.bool false)], args := [d1, d2] }
  | _ => none }
def StripFusesWrongFalsely : Prop := stripFusesRow.holds Try.pinned (OpenSpec.ofChange stripFusesWrong)

/-- 'dossierlaw18.StripOfNothing': WHATEVER THE INPUT: true; the input reads as it did. -/
def stripOfNothingSpec : ChangeSpec := { name := "stripOfNothing", fn := fun _ => fun
  | [d] => { results := [.lit (.bool true)], args := [d] }
  | _ => none }
def stripOfNothingRow : OpenClaim := { program := "ytakpmnlakgkgpaa", sum := "c5dcd324866dc046525e8f7bbb412d279949dcff726c2458425935208263bf4c", func := "dossier/dossierlaw18.StripOfNothing", spec := "stripOfNothing", apart := false }
def StripOfNothingSaid : Prop := stripOfNothingRow.holds Try.pinned (OpenSpec.ofChange stripOfNothingSpec)

/-- ITS FALSE NEIGHBOUR: 'it returns false'. Refute it at one input. -/
def stripOfNothingWrong : ChangeSpec := { name := "stripOfNothing", fn := fun _ => fun
  | [d] => { results := [.lit (.bool false)], args := [d] }
  | _ => none }
def StripOfNothingWrongFalsely : Prop := stripOfNothingRow.holds Try.pinned (OpenSpec.ofChange stripOfNothingWrong)

/- THE SECOND FORM. 'bulk': how many values and letters a reading holds, each counted each time it is reached (what is shared counts as often as it is met; a slice's spare places count too). A statement '..UptoSaid' is the law's where the arguments, and the package variables that the reading takes, are together of bulk at most 1048576: NARROWER than '..Said'. Prove '..Said' where nothing that the law and all that it calls make is longer than what came in: it says more and counts as full. Else prove '..UptoSaid'. A law counts once. -/
mutual
def uptoBulk {H : Type} : DataW H → Nat
  | .lit (.string bytes) => bytes.length + 1
  | .lit _ => 1
  | .nil => 1
  | .ptr d => uptoBulk d + 1
  | .slice elems spare => uptoBulkAll elems + uptoBulkAll spare + 1
  | .agg parts => uptoBulkAll parts + 1
  | .iface _ d => uptoBulk d + 1
  | .map entries => uptoBulkEntries entries + 1
  | .held _ => 1
def uptoBulkAll {H : Type} : List (DataW H) → Nat
  | [] => 0
  | d :: r => uptoBulk d + uptoBulkAll r
def uptoBulkEntries {H : Type} : List (Lit × DataW H) → Nat
  | [] => 0
  | x :: r => uptoBulkEntry x + uptoBulkEntries r
def uptoBulkEntry {H : Type} : Lit × DataW H → Nat
  | (.string bytes, d) => bytes.length + uptoBulk d + 1
  | (_, d) => uptoBulk d + 1
 end
def uptoSmall : (H : Type) → List (DataW H) → Bool := fun _ ds => decide (uptoBulkAll ds ≤ 1048576)
def OpenSpec.upto (s : _root_.Go.ChangeSpec) : _root_.Go.OpenSpec := { _root_.Go.OpenSpec.ofChange s with cond := some uptoSmall }

/-- 'dossierlaw18.StripFull', WHERE WHAT IT READS IS OF BULK AT MOST 1048576: true; the input reads as it did. -/
def stripFullUptoRow : OpenClaim := { program := "ytakpmnlakgkgpaa", sum := "c5dcd324866dc046525e8f7bbb412d279949dcff726c2458425935208263bf4c", func := "dossier/dossierlaw18.StripFull", spec := "stripFull", apart := false, narrowed := true }
def StripFullUptoSaid : Prop := stripFullUptoRow.holds Try.pinned (OpenSpec.upto stripFullSpec)

/-- 'dossierlaw18.StripCuts', WHERE WHAT IT READS IS OF BULK AT MOST 1048576: true; the input reads as it did. -/
def stripCutsUptoRow : OpenClaim := { program := "ytakpmnlakgkgpaa", sum := "c5dcd324866dc046525e8f7bbb412d279949dcff726c2458425935208263bf4c", func := "dossier/dossierlaw18.StripCuts", spec := "stripCuts", apart := false, narrowed := true }
def StripCutsUptoSaid : Prop := stripCutsUptoRow.holds Try.pinned (OpenSpec.upto stripCutsSpec)

/-- 'dossierlaw18.StripPlays', WHERE WHAT IT READS IS OF BULK AT MOST 1048576: true; the input reads as it did. -/
def stripPlaysUptoRow : OpenClaim := { program := "ytakpmnlakgkgpaa", sum := "c5dcd324866dc046525e8f7bbb412d279949dcff726c2458425935208263bf4c", func := "dossier/dossierlaw18.StripPlays", spec := "stripPlays", apart := false, narrowed := true }
def StripPlaysUptoSaid : Prop := stripPlaysUptoRow.holds Try.pinned (OpenSpec.upto stripPlaysSpec)

/-- 'dossierlaw18.StripCrashes', WHERE WHAT IT READS IS OF BULK AT MOST 1048576: true; the input reads as it did. -/
def stripCrashesUptoRow : OpenClaim := { program := "ytakpmnlakgkgpaa", sum := "c5dcd324866dc046525e8f7bbb412d279949dcff726c2458425935208263bf4c", func := "dossier/dossierlaw18.StripCrashes", spec := "stripCrashes", apart := false, narrowed := true }
def StripCrashesUptoSaid : Prop := stripCrashesUptoRow.holds Try.pinned (OpenSpec.upto stripCrashesSpec)

/-- 'dossierlaw18.StripFuses', WHERE WHAT IT READS IS OF BULK AT MOST 1048576: true; the input reads as it did. -/
def stripFusesUptoRow : OpenClaim := { program := "ytakpmnlakgkgpaa", sum := "c5dcd324866dc046525e8f7bbb412d279949dcff726c2458425935208263bf4c", func := "dossier/dossierlaw18.StripFuses", spec := "stripFuses", apart := false, narrowed := true }
def StripFusesUptoSaid : Prop := stripFusesUptoRow.holds Try.pinned (OpenSpec.upto stripFusesSpec)

/-- 'dossierlaw18.StripOfNothing', WHERE WHAT IT READS IS OF BULK AT MOST 1048576: true; the input reads as it did. -/
def stripOfNothingUptoRow : OpenClaim := { program := "ytakpmnlakgkgpaa", sum := "c5dcd324866dc046525e8f7bbb412d279949dcff726c2458425935208263bf4c", func := "dossier/dossierlaw18.StripOfNothing", spec := "stripOfNothing", apart := false, narrowed := true }
def StripOfNothingUptoSaid : Prop := stripOfNothingUptoRow.holds Try.pinned (OpenSpec.upto stripOfNothingSpec)

end Rows
end Go.Proofs.Ytakpmnlakgkgpaa
