/-
  NARROWER THAN 'FOR EVERY INPUT', by the rows' own cells (each row's printed sentence says how): HistStates: loops · HistHeads: loops.
  DERIVED. THE GIVEN ROWS OF THIS SEAT. 5 by the template 'for every input the law returns true; each argument reads behind the call as it read before'; 0 by the template 'total and deterministic' (their statements: YtaddhackggbdkaaTotals.lean).
  GIVEN WITH THE SEED: the statements are not yours to turn. If you find one false, say at which input.
  Laid BY PROGRAM, IN A SANDBOX (cutbox-rows.mjs): the forced cells as the released guide's own fill.sh prints them over the translation 2765c8afdfb4cb3c… (all of the seat's roots in one cut). By AI agents, Wed Nov 11 2026. No macro, syntax, notation, axiom, sorry.
-/
import Derived.Test.YtaddhackggbdkaaChecked
import GoSem.Claim
import GoSem.ClaimJoined
import GoSem.ClaimMapViews
import Derived.JoinedTies
import Derived.KernelRfl
namespace Go.Proofs.Ytaddhackggbdkaa
/- THE CELL 'sum', in the pinned program and in every row, IS THE sha256 OF THE DUMP (.gsa) THAT YtaddhackggbdkaaProg.lean LOADS. Nothing in Lean hashes anything: it is a label: what it is worth is what the hold of that sum in a sandbox is worth. -/
noncomputable def Try.pinned : Pinned := { name := "ytaddhackggbdkaa", sum := "2765c8afdfb4cb3c1e526a11b053aa16565043d709a1b86a7418d5e8b6e435c0", checked := Try.checked }
namespace Rows
def none {H : Type} : Left H := { results := [], args := [] }

/-- 'dossierlaw16.HistTells': WHATEVER THE INPUT: true; the input reads as it did. -/
def histTellsSpec : ChangeSpec := { name := "histTells", fn := fun _ => fun
  | [d1, d2, d3, d4, d5, d6, d7] => { results := [.lit (.bool true)], args := [d1, d2, d3, d4, d5, d6, d7] }
  | _ => none }
def histTellsRow : OpenClaim := { program := "ytaddhackggbdkaa", sum := "2765c8afdfb4cb3c1e526a11b053aa16565043d709a1b86a7418d5e8b6e435c0", func := "dossier/dossierlaw16.HistTells", spec := "histTells", unfollowed := true, recurses := true, plainKeys := false, apart := false }
def HistTellsSaid : Prop := histTellsRow.holds Try.pinned (OpenSpec.ofChange histTellsSpec)

/-- ITS FALSE NEIGHBOUR: 'it returns false'. Refute it at one input. -/
def histTellsWrong : ChangeSpec := { name := "histTells", fn := fun _ => fun
  | [d1, d2, d3, d4, d5, d6, d7] => { results := [.lit (.bool false)], args := [d1, d2, d3, d4, d5, d6, d7] }
  | _ => none }
def HistTellsWrongFalsely : Prop := histTellsRow.holds Try.pinned (OpenSpec.ofChange histTellsWrong)

/-- 'dossierlaw16.HistKeys': WHATEVER THE INPUT: true; the input reads as it did. -/
def histKeysSpec : ChangeSpec := { name := "histKeys", fn := fun _ => fun
  | [d1, d2] => { results := [.lit (.bool true)], args := [d1, d2] }
  | _ => none }
def histKeysRow : OpenClaim := { program := "ytaddhackggbdkaa", sum := "2765c8afdfb4cb3c1e526a11b053aa16565043d709a1b86a7418d5e8b6e435c0", func := "dossier/dossierlaw16.HistKeys", spec := "histKeys", unfollowed := true, recurses := true, plainKeys := false, apart := false }
def HistKeysSaid : Prop := histKeysRow.holds Try.pinned (OpenSpec.ofChange histKeysSpec)

/-- ITS FALSE NEIGHBOUR: 'it returns false'. Refute it at one input. -/
def histKeysWrong : ChangeSpec := { name := "histKeys", fn := fun _ => fun
  | [d1, d2] => { results := [.lit (.bool false)], args := [d1, d2] }
  | _ => none }
def HistKeysWrongFalsely : Prop := histKeysRow.holds Try.pinned (OpenSpec.ofChange histKeysWrong)

/-- 'dossierlaw16.HistOwn': WHATEVER THE INPUT: true; the input reads as it did. -/
def histOwnSpec : ChangeSpec := { name := "histOwn", fn := fun _ => fun
  | [d] => { results := [.lit (.bool true)], args := [d] }
  | _ => none }
def histOwnRow : OpenClaim := { program := "ytaddhackggbdkaa", sum := "2765c8afdfb4cb3c1e526a11b053aa16565043d709a1b86a7418d5e8b6e435c0", func := "dossier/dossierlaw16.HistOwn", spec := "histOwn", unfollowed := true, recurses := true, plainKeys := false, apart := false }
def HistOwnSaid : Prop := histOwnRow.holds Try.pinned (OpenSpec.ofChange histOwnSpec)

/-- ITS FALSE NEIGHBOUR: 'it returns false'. Refute it at one input. -/
def histOwnWrong : ChangeSpec := { name := "histOwn", fn := fun _ => fun
  | [d] => { results := [.lit (.bool false)], args := [d] }
  | _ => none }
def HistOwnWrongFalsely : Prop := histOwnRow.holds Try.pinned (OpenSpec.ofChange histOwnWrong)

/-- 'dossierlaw16.HistStates': WHATEVER THE INPUT: true; the input reads as it did. -/
def histStatesSpec : ChangeSpec := { name := "histStates", fn := fun _ => fun
  | [d1, d2] => { results := [.lit (.bool true)], args := [d1, d2] }
  | _ => none }
def histStatesRow : OpenClaim := { program := "ytaddhackggbdkaa", sum := "2765c8afdfb4cb3c1e526a11b053aa16565043d709a1b86a7418d5e8b6e435c0", func := "dossier/dossierlaw16.HistStates", spec := "histStates", unfollowed := true, recurses := true, loops := true, plainKeys := false, apart := false }
def HistStatesSaid : Prop := histStatesRow.holds Try.pinned (OpenSpec.ofChange histStatesSpec)

/-- ITS FALSE NEIGHBOUR: 'it returns false'. Refute it at one input. -/
def histStatesWrong : ChangeSpec := { name := "histStates", fn := fun _ => fun
  | [d1, d2] => { results := [.lit (.bool false)], args := [d1, d2] }
  | _ => none }
def HistStatesWrongFalsely : Prop := histStatesRow.holds Try.pinned (OpenSpec.ofChange histStatesWrong)

/-- 'dossierlaw16.HistHeads': WHATEVER THE INPUT: true; the input reads as it did. -/
def histHeadsSpec : ChangeSpec := { name := "histHeads", fn := fun _ => fun
  | [d1, d2, d3] => { results := [.lit (.bool true)], args := [d1, d2, d3] }
  | _ => none }
def histHeadsRow : OpenClaim := { program := "ytaddhackggbdkaa", sum := "2765c8afdfb4cb3c1e526a11b053aa16565043d709a1b86a7418d5e8b6e435c0", func := "dossier/dossierlaw16.HistHeads", spec := "histHeads", unfollowed := true, recurses := true, loops := true, plainKeys := false, apart := false }
def HistHeadsSaid : Prop := histHeadsRow.holds Try.pinned (OpenSpec.ofChange histHeadsSpec)

/-- ITS FALSE NEIGHBOUR: 'it returns false'. Refute it at one input. -/
def histHeadsWrong : ChangeSpec := { name := "histHeads", fn := fun _ => fun
  | [d1, d2, d3] => { results := [.lit (.bool false)], args := [d1, d2, d3] }
  | _ => none }
def HistHeadsWrongFalsely : Prop := histHeadsRow.holds Try.pinned (OpenSpec.ofChange histHeadsWrong)

/- THE SECOND FORM. 'bulk': how many values and letters a reading holds, each counted each time it is reached (what is shared counts as often as it is met; a slice's spare places count too). A statement '..UptoSaid' is the law's where the arguments, and the package variables that the reading takes, are together of bulk at most 1048576: NARROWER than '..Said'. Prove '..Said' where nothing that the law and all that it calls make is longer than what came in: it says more and counts as full. Else prove '..UptoSaid'. A law counts once. -/
mutual
def uptoBulk {H : Type} : DataW H → Nat
  | .lit (.string bytes) => bytes.length + 1
  | .lit _ => 1
  | .nil => 1
  | .ptr d => uptoBulk d + 1
  | .slice elems spare => uptoBulkAll elems + uptoBulkAll spare + 1
  | .agg parts => uptoBulkAll parts + 1
  | .iface _ d => uptoBulk d + 1
  | .map entries => uptoBulkEntries entries + 1
  | .held _ => 1
def uptoBulkAll {H : Type} : List (DataW H) → Nat
  | [] => 0
  | d :: r => uptoBulk d + uptoBulkAll r
def uptoBulkEntries {H : Type} : List (Lit × DataW H) → Nat
  | [] => 0
  | x :: r => uptoBulkEntry x + uptoBulkEntries r
def uptoBulkEntry {H : Type} : Lit × DataW H → Nat
  | (.string bytes, d) => bytes.length + uptoBulk d + 1
  | (_, d) => uptoBulk d + 1
 end
def uptoSmall : (H : Type) → List (DataW H) → Bool := fun _ ds => decide (uptoBulkAll ds ≤ 1048576)
def OpenSpec.upto (s : _root_.Go.ChangeSpec) : _root_.Go.OpenSpec := { _root_.Go.OpenSpec.ofChange s with cond := some uptoSmall }

/-- 'dossierlaw16.HistTells', WHERE WHAT IT READS IS OF BULK AT MOST 1048576: true; the input reads as it did. -/
def histTellsUptoRow : OpenClaim := { program := "ytaddhackggbdkaa", sum := "2765c8afdfb4cb3c1e526a11b053aa16565043d709a1b86a7418d5e8b6e435c0", func := "dossier/dossierlaw16.HistTells", spec := "histTells", unfollowed := true, recurses := true, plainKeys := false, apart := false, narrowed := true }
def HistTellsUptoSaid : Prop := histTellsUptoRow.holds Try.pinned (OpenSpec.upto histTellsSpec)

/-- 'dossierlaw16.HistKeys', WHERE WHAT IT READS IS OF BULK AT MOST 1048576: true; the input reads as it did. -/
def histKeysUptoRow : OpenClaim := { program := "ytaddhackggbdkaa", sum := "2765c8afdfb4cb3c1e526a11b053aa16565043d709a1b86a7418d5e8b6e435c0", func := "dossier/dossierlaw16.HistKeys", spec := "histKeys", unfollowed := true, recurses := true, plainKeys := false, apart := false, narrowed := true }
def HistKeysUptoSaid : Prop := histKeysUptoRow.holds Try.pinned (OpenSpec.upto histKeysSpec)

/-- 'dossierlaw16.HistOwn', WHERE WHAT IT READS IS OF BULK AT MOST 1048576: true; the input reads as it did. -/
def histOwnUptoRow : OpenClaim := { program := "ytaddhackggbdkaa", sum := "2765c8afdfb4cb3c1e526a11b053aa16565043d709a1b86a7418d5e8b6e435c0", func := "dossier/dossierlaw16.HistOwn", spec := "histOwn", unfollowed := true, recurses := true, plainKeys := false, apart := false, narrowed := true }
def HistOwnUptoSaid : Prop := histOwnUptoRow.holds Try.pinned (OpenSpec.upto histOwnSpec)

/-- 'dossierlaw16.HistStates', WHERE WHAT IT READS IS OF BULK AT MOST 1048576: true; the input reads as it did. -/
def histStatesUptoRow : OpenClaim := { program := "ytaddhackggbdkaa", sum := "2765c8afdfb4cb3c1e526a11b053aa16565043d709a1b86a7418d5e8b6e435c0", func := "dossier/dossierlaw16.HistStates", spec := "histStates", unfollowed := true, recurses := true, loops := true, plainKeys := false, apart := false, narrowed := true }
def HistStatesUptoSaid : Prop := histStatesUptoRow.holds Try.pinned (OpenSpec.upto histStatesSpec)

/-- 'dossierlaw16.HistHeads', WHERE WHAT IT READS IS OF BULK AT MOST 1048576: true; the input reads as it did. -/
def histHeadsUptoRow : OpenClaim := { program := "ytaddhackggbdkaa", sum := "2765c8afdfb4cb3c1e526a11b053aa16565043d709a1b86a7418d5e8b6e435c0", func := "dossier/dossierlaw16.HistHeads", spec := "histHeads", unfollowed := true, recurses := true, loops := true, plainKeys := false, apart := false, narrowed := true }
def HistHeadsUptoSaid : Prop := histHeadsUptoRow.holds Try.pinned (OpenSpec.upto histHeadsSpec)

end Rows
end Go.Proofs.Ytaddhackggbdkaa
