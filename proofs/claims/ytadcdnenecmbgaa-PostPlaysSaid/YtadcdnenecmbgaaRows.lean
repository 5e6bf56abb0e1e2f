/-
  No cell of these rows narrows 'for every input' (looked for: loops, veiled, ifaces, maps, wideKeys, modest, calm, conditions, laid).
  DERIVED. THE GIVEN ROWS OF THIS SEAT. 5 by the template 'for every input the law returns true; each argument reads behind the call as it read before'; 0 by the template 'total and deterministic' (their statements: YtadcdnenecmbgaaTotals.lean).
  GIVEN WITH THE SEED: the statements are not yours to turn. If you find one false, say at which input.
  Laid BY PROGRAM, IN A SANDBOX (cutbox-rows.mjs): the forced cells as the released guide's own fill.sh prints them over the translation 6a57373cb9b47a4e… (all of the seat's roots in one cut). By AI agents, Wed Nov 11 2026. No macro, syntax, notation, axiom, sorry.
-/
import Derived.Test.YtadcdnenecmbgaaChecked
import GoSem.Claim
import GoSem.ClaimJoined
import GoSem.ClaimMapViews
import Derived.JoinedTies
import Derived.KernelRfl
namespace Go.Proofs.Ytadcdnenecmbgaa
/- THE CELL 'sum', in the pinned program and in every row, IS THE sha256 OF THE DUMP (.gsa) THAT YtadcdnenecmbgaaProg.lean LOADS. Nothing in Lean hashes anything: it is a label: what it is worth is what the hold of that sum in a sandbox is worth. -/
noncomputable def Try.pinned : Pinned := { name := "ytadcdnenecmbgaa", sum := "6a57373cb9b47a4e38609d1faed643fe205e1d8fd60b143952dce5b60f542d5a", checked := Try.checked }
namespace Rows
def none {H : Type} : Left H := { results := [], args := [] }

/-- 'dossierlaw14.PostRings': WHATEVER THE INPUT: true; the input reads as it did. -/
def postRingsSpec : ChangeSpec := { name := "postRings", fn := fun _ => fun
  | [d1, d2] => { results := [.lit (.bool true)], args := [d1, d2] }
  | _ => none }
def postRingsRow : OpenClaim := { program := "ytadcdnenecmbgaa", sum := "6a57373cb9b47a4e38609d1faed643fe205e1d8fd60b143952dce5b60f542d5a", func := "dossier/dossierlaw14.PostRings", spec := "postRings", apart := false }
def PostRingsSaid : Prop := postRingsRow.holds Try.pinned (OpenSpec.ofChange postRingsSpec)

/-- ITS FALSE NEIGHBOUR: 'it returns false'. Refute it at one input. -/
def postRingsWrong : ChangeSpec := { name := "postRings", fn := fun _ => fun
  | [d1, d2] => { results := [.lit (.bool false)], args := [d1, d2] }
  | _ => none }
def PostRingsWrongFalsely : Prop := postRingsRow.holds Try.pinned (OpenSpec.ofChange postRingsWrong)

/-- 'dossierlaw14.PostTexts': WHATEVER THE INPUT: true; the input reads as it did. -/
def postTextsSpec : ChangeSpec := { name := "postTexts", fn := fun _ => fun
  | [d] => { results := [.lit (.bool true)], args := [d] }
  | _ => none }
def postTextsRow : OpenClaim := { program := "ytadcdnenecmbgaa", sum := "6a57373cb9b47a4e38609d1faed643fe205e1d8fd60b143952dce5b60f542d5a", func := "dossier/dossierlaw14.PostTexts", spec := "postTexts", apart := false }
def PostTextsSaid : Prop := postTextsRow.holds Try.pinned (OpenSpec.ofChange postTextsSpec)

/-- ITS FALSE NEIGHBOUR: 'it returns false'. Refute it at one input. -/
def postTextsWrong : ChangeSpec := { name := "postTexts", fn := fun _ => fun
  | [d] => { results := [.lit (.bool false)], args := [d] }
  | _ => none }
def PostTextsWrongFalsely : Prop := postTextsRow.holds Try.pinned (OpenSpec.ofChange postTextsWrong)

/-- 'dossierlaw14.PostFirst': WHATEVER THE INPUT: true; the input reads as it did. -/
def postFirstSpec : ChangeSpec := { name := "postFirst", fn := fun _ => fun
  | [d] => { results := [.lit (.bool true)], args := [d] }
  | _ => none }
def postFirstRow : OpenClaim := { program := "ytadcdnenecmbgaa", sum := "6a57373cb9b47a4e38609d1faed643fe205e1d8fd60b143952dce5b60f542d5a", func := "dossier/dossierlaw14.PostFirst", spec := "postFirst", apart := false }
def PostFirstSaid : Prop := postFirstRow.holds Try.pinned (OpenSpec.ofChange postFirstSpec)

/-- ITS FALSE NEIGHBOUR: 'it returns false'. Refute it at one input. -/
def postFirstWrong : ChangeSpec := { name := "postFirst", fn := fun _ => fun
  | [d] => { results := [.lit (.bool false)], args := [d] }
  | _ => none }
def PostFirstWrongFalsely : Prop := postFirstRow.holds Try.pinned (OpenSpec.ofChange postFirstWrong)

/-- 'dossierlaw14.PostPlays': WHATEVER THE INPUT: true; the input reads as it did. -/
def postPlaysSpec : ChangeSpec := { name := "postPlays", fn := fun _ => fun
  | [d1, d2] => { results := [.lit (.bool true)], args := [d1, d2] }
  | _ => none }
def postPlaysRow : OpenClaim := { program := "ytadcdnenecmbgaa", sum := "6a57373cb9b47a4e38609d1faed643fe205e1d8fd60b143952dce5b60f542d5a", func := "dossier/dossierlaw14.PostPlays", spec := "postPlays", apart := false }
def PostPlaysSaid : Prop := postPlaysRow.holds Try.pinned (OpenSpec.ofChange postPlaysSpec)

/-- ITS FALSE NEIGHBOUR: 'it returns false'. Refute it at one input. -/
def postPlaysWrong : ChangeSpec := { name := "postPlays", fn := fun _ => fun
  | [d1, d2] => { results := [.lit (.bool false)], args := [d1, d2] }
  | _ => none }
def PostPlaysWrongFalsely : Prop := postPlaysRow.holds Try.pinned (OpenSpec.ofChange postPlaysWrong)

/-- 'dossierlaw14.PostOfNothing': WHATEVER THE INPUT: true; the input reads as it did. -/
def postOfNothingSpec : ChangeSpec := { name := "postOfNothing", fn := fun _ => fun
  | [d1, d2] => { results := [.lit (.bool true)], args := [d1, d2] }
  | _ => none }
def postOfNothingRow : OpenClaim := { program := "ytadcdnenecmbgaa", sum := "6a57373cb9b47a4e38609d1faed643fe205e1d8fd60b143952dce5b60f542d5a", func := "dossier/dossierlaw14.PostOfNothing", spec := "postOfNothing", apart := false }
def PostOfNothingSaid : Prop := postOfNothingRow.holds Try.pinned (OpenSpec.ofChange postOfNothingSpec)

/-- ITS FALSE NEIGHBOUR: 'it returns false'. Refute it at one input. -/
def postOfNothingWrong : ChangeSpec := { name := "postOfNothing", fn := fun _ => fun
  | [d1, d2] => { results := [.lit (.bool false)], args := [d1, d2] }
  | _ => none }
def PostOfNothingWrongFalsely : Prop := postOfNothingRow.holds Try.pinned (OpenSpec.ofChange postOfNothingWrong)

/- THE SECOND FORM. 'bulk': how many values and letters a reading holds, each counted each time it is reached (what is shared counts as often as it is met; a slice's spare places count too). A statement '..UptoSaid' is the law's where the arguments, and the package variables that the reading takes, are together of bulk at most 1048576: NARROWER than '..Said'. Prove '..Said' where nothing that the law and all that it calls make is longer than what came in: it says more and counts as full. Else prove '..UptoSaid'. A law counts once. -/
mutual
def uptoBulk {H : Type} : DataW H → Nat
  | .lit (.string bytes) => bytes.length + 1
  | .lit _ => 1
  | .nil => 1
  | .ptr d => uptoBulk d + 1
  | .slice elems spare => uptoBulkAll elems + uptoBulkAll spare + 1
  | .agg parts => uptoBulkAll parts + 1
  | .iface _ d => uptoBulk d + 1
  | .map entries => uptoBulkEntries entries + 1
  | .held _ => 1
def uptoBulkAll {H : Type} : List (DataW H) → Nat
  | [] => 0
  | d :: r => uptoBulk d + uptoBulkAll r
def uptoBulkEntries {H : Type} : List (Lit × DataW H) → Nat
  | [] => 0
  | x :: r => uptoBulkEntry x + uptoBulkEntries r
def uptoBulkEntry {H : Type} : Lit × DataW H → Nat
  | (.string bytes, d) => bytes.length + uptoBulk d + 1
  | (_, d) => uptoBulk d + 1
 end
def uptoSmall : (H : Type) → List (DataW H) → Bool := fun _ ds => decide (uptoBulkAll ds ≤ 1048576)
def OpenSpec.upto (s : _root_.Go.ChangeSpec) : _root_.Go.OpenSpec := { _root_.Go.OpenSpec.ofChange s with cond := some uptoSmall }

/-- 'dossierlaw14.PostRings', WHERE WHAT IT READS IS OF BULK AT MOST 1048576: true; the input reads as it did. -/
def postRingsUptoRow : OpenClaim := { program := "ytadcdnenecmbgaa", sum := "6a57373cb9b47a4e38609d1faed643fe205e1d8fd60b143952dce5b60f542d5a", func := "dossier/dossierlaw14.PostRings", spec := "postRings", apart := false, narrowed := true }
def PostRingsUptoSaid : Prop := postRingsUptoRow.holds Try.pinned (OpenSpec.upto postRingsSpec)

/-- 'dossierlaw14.PostTexts', WHERE WHAT IT READS IS OF BULK AT MOST 1048576: true; the input reads as it did. -/
def postTextsUptoRow : OpenClaim := { program := "ytadcdnenecmbgaa", sum := "6a57373cb9b47a4e38609d1faed643fe205e1d8fd60b143952dce5b60f542d5a", func := "dossier/dossierlaw14.PostTexts", spec := "postTexts", apart := false, narrowed := true }
def PostTextsUptoSaid : Prop := postTextsUptoRow.holds Try.pinned (OpenSpec.upto postTextsSpec)

/-- 'dossierlaw14.PostFirst', WHERE WHAT IT READS IS OF BULK AT MOST 1048576: true; the input reads as it did. -/
def postFirstUptoRow : OpenClaim := { program := "ytadcdnenecmbgaa", sum := "6a57373cb9b47a4e38609d1faed643fe205e1d8fd60b143952dce5b60f542d5a", func := "dossier/dossierlaw14.PostFirst", spec := "postFirst", apart := false, narrowed := true }
def PostFirstUptoSaid : Prop := postFirstUptoRow.holds Try.pinned (OpenSpec.upto postFirstSpec)

/-- 'dossierlaw14.PostPlays', WHERE WHAT IT READS IS OF BULK AT MOST 1048576: true; the input reads as it did. -/
def postPlaysUptoRow : OpenClaim := { program := "ytadcdnenecmbgaa", sum := "6a57373cb9b47a4e38609d1faed643fe205e1d8fd60b143952dce5b60f542d5a", func := "dossier/dossierlaw14.PostPlays", spec := "postPlays", apart := false, narrowed := true }
def PostPlaysUptoSaid : Prop := postPlaysUptoRow.holds Try.pinned (OpenSpec.upto postPlaysSpec)

/-- 'dossierlaw14.PostOfNothing', WHERE WHAT IT READS IS OF BULK AT MOST 1048576: true; the input reads as it did. -/
def postOfNothingUptoRow : OpenClaim := { program := "ytadcdnenecmbgaa", sum := "6a57373cb9b47a4e38609d1faed643fe205e1d8fd60b143952dce5b60f542d5a", func := "dossier/dossierlaw14.PostOfNothing", spec := "postOfNothing", apart := false, narrowed := true }
def PostOfNothingUptoSaid : Prop := postOfNothingUptoRow.holds Try.pinned (OpenSpec.upto postOfNothingSpec)

end Rows
end Go.Proofs.Ytadcdnenecmbgaa
