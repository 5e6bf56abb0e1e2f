/-
  No cell of these rows narrows 'for every input' (looked for: loops, veiled, ifaces, maps, wideKeys, modest, calm, conditions, laid).
  DERIVED. THE GIVEN ROWS OF THIS SEAT. 5 by the template 'for every input the law returns true; each argument reads behind the call as it read before'; 0 by the template 'total and deterministic' (their statements: YtoocccjeebmcoaaTotals.lean).
  GIVEN WITH THE SEED: the statements are not yours to turn. If you find one false, say at which input.
  Laid BY PROGRAM, IN A SANDBOX (cutbox-rows.mjs): the forced cells as the released guide's own fill.sh prints them over the translation baaf4e7c4243afca… (all of the seat's roots in one cut). By AI agents, Wed Nov 11 2026. No macro, syntax, notation, axiom, sorry.
-/
import Derived.Test.YtoocccjeebmcoaaChecked
import GoSem.Claim
import GoSem.ClaimJoined
import GoSem.ClaimMapViews
import Derived.JoinedTies
import Derived.KernelRfl
namespace Go.Proofs.Ytoocccjeebmcoaa
/- THE CELL 'sum', in the pinned program and in every row, IS THE sha256 OF THE DUMP (.gsa) THAT YtoocccjeebmcoaaProg.lean LOADS. Nothing in Lean hashes anything: it is a label: what it is worth is what the hold of that sum in a sandbox is worth. -/
noncomputable def Try.pinned : Pinned := { name := "ytoocccjeebmcoaa", sum := "baaf4e7c4243afcabe1c7366e9bc2cd9f0795fbf512e23dc78b950ea859a1aa2", checked := Try.checked }
namespace Rows
def none {H : Type} : Left H := { results := [], args := [] }

/-- 'dossierlaw13.LifeTells': WHATEVER THE INPUT: true; the input reads as it did. -/
def lifeTellsSpec : ChangeSpec := { name := "lifeTells", fn := fun _ => fun
  | [d1, d2, d3] => { results := [.lit (.bool true)], args := [d1, d2, d3] }
  | _ => none }
def lifeTellsRow : OpenClaim := { program := "ytoocccjeebmcoaa", sum := "baaf4e7c4243afcabe1c7366e9bc2cd9f0795fbf512e23dc78b950ea859a1aa2", func := "dossier/dossierlaw13.LifeTells", spec := "lifeTells", apart := false }
def LifeTellsSaid : Prop := lifeTellsRow.holds Try.pinned (OpenSpec.ofChange lifeTellsSpec)

/-- ITS FALSE NEIGHBOUR: 'it returns false'. Refute it at one input. -/
def lifeTellsWrong : ChangeSpec := { name := "lifeTells", fn := fun _ => fun
  | [d1, d2, d3] => { results := [.lit (.bool false)], args := [d1, d2, d3] }
  | _ => none }
def LifeTellsWrongFalsely : Prop := lifeTellsRow.holds Try.pinned (OpenSpec.ofChange lifeTellsWrong)

/-- 'dossierlaw13.LifeEnds': WHATEVER THE INPUT: true; the input reads as it did. -/
def lifeEndsSpec : ChangeSpec := { name := "lifeEnds", fn := fun _ => fun
  | [d1, d2, d3] => { results := [.lit (.bool true)], args := [d1, d2, d3] }
  | _ => none }
def lifeEndsRow : OpenClaim := { program := "ytoocccjeebmcoaa", sum := "baaf4e7c4243afcabe1c7366e9bc2cd9f0795fbf512e23dc78b950ea859a1aa2", func := "dossier/dossierlaw13.LifeEnds", spec := "lifeEnds", apart := false }
def LifeEndsSaid : Prop := lifeEndsRow.holds Try.pinned (OpenSpec.ofChange lifeEndsSpec)

/-- ITS FALSE NEIGHBOUR: 'it returns false'. Refute it at one input. -/
def lifeEndsWrong : ChangeSpec := { name := "lifeEnds", fn := fun _ => fun
  | [d1, d2, d3] => { results := [.lit (.bool false)], args := [d1, d2, d3] }
  | _ => none }
def LifeEndsWrongFalsely : Prop := lifeEndsRow.holds Try.pinned (OpenSpec.ofChange lifeEndsWrong)

/-- 'dossierlaw13.LifeWalks': WHATEVER THE INPUT: true; the input reads as it did. -/
def lifeWalksSpec : ChangeSpec := { name := "lifeWalks", fn := fun _ => fun
  | [d1, d2] => { results := [.lit (.bool true)], args := [d1, d2] }
  | _ => none }
def lifeWalksRow : OpenClaim := { program := "ytoocccjeebmcoaa", sum := "baaf4e7c4243afcabe1c7366e9bc2cd9f0795fbf512e23dc78b950ea859a1aa2", func := "dossier/dossierlaw13.LifeWalks", spec := "lifeWalks", apart := false }
def LifeWalksSaid : Prop := lifeWalksRow.holds Try.pinned (OpenSpec.ofChange lifeWalksSpec)

/-- ITS FALSE NEIGHBOUR: 'it returns false'. Refute it at one input. -/
def lifeWalksWrong : ChangeSpec := { name := "lifeWalks", fn := fun _ => fun
  | [d1, d2] => { results := [.lit (.bool false)], args := [d1, d2] }
  | _ => none }
def LifeWalksWrongFalsely : Prop := lifeWalksRow.holds Try.pinned (OpenSpec.ofChange lifeWalksWrong)

/-- 'dossierlaw13.LifeAsked': WHATEVER THE INPUT: true; the input reads as it did. -/
def lifeAskedSpec : ChangeSpec := { name := "lifeAsked", fn := fun _ => fun
  | [d1, d2] => { results := [.lit (.bool true)], args := [d1, d2] }
  | _ => none }
def lifeAskedRow : OpenClaim := { program := "ytoocccjeebmcoaa", sum := "baaf4e7c4243afcabe1c7366e9bc2cd9f0795fbf512e23dc78b950ea859a1aa2", func := "dossier/dossierlaw13.LifeAsked", spec := "lifeAsked", apart := false }
def LifeAskedSaid : Prop := lifeAskedRow.holds Try.pinned (OpenSpec.ofChange lifeAskedSpec)

/-- ITS FALSE NEIGHBOUR: 'it returns false'. Refute it at one input. -/
def lifeAskedWrong : ChangeSpec := { name := "lifeAsked", fn := fun _ => fun
  | [d1, d2] => { results := [.lit (.bool false)], args := [d1, d2] }
  | _ => none }
def LifeAskedWrongFalsely : Prop := lifeAskedRow.holds Try.pinned (OpenSpec.ofChange lifeAskedWrong)

/-- 'dossierlaw13.LifeTwo': WHATEVER THE INPUT: true; the input reads as it did. -/
def lifeTwoSpec : ChangeSpec := { name := "lifeTwo", fn := fun _ => fun
  | [d1, d2] => { results := [.lit (.bool true)], args := [d1, d2] }
  | _ => none }
def lifeTwoRow : OpenClaim := { program := "ytoocccjeebmcoaa", sum := "baaf4e7c4243afcabe1c7366e9bc2cd9f0795fbf512e23dc78b950ea859a1aa2", func := "dossier/dossierlaw13.LifeTwo", spec := "lifeTwo", apart := false }
def LifeTwoSaid : Prop := lifeTwoRow.holds Try.pinned (OpenSpec.ofChange lifeTwoSpec)

/-- ITS FALSE NEIGHBOUR: 'it returns false'. Refute it at one input. -/
def lifeTwoWrong : ChangeSpec := { name := "lifeTwo", fn := fun _ => fun
  | [d1, d2] => { results := [.lit (.bool false)], args := [d1, d2] }
  | _ => none }
def LifeTwoWrongFalsely : Prop := lifeTwoRow.holds Try.pinned (OpenSpec.ofChange lifeTwoWrong)

/- THE SECOND FORM. 'bulk': how many values and letters a reading holds, each counted each time it is reached (what is shared counts as often as it is met; a slice's spare places count too). A statement '..UptoSaid' is the law's where the arguments, and the package variables that the reading takes, are together of bulk at most 1048576: NARROWER than '..Said'. Prove '..Said' where nothing that the law and all that it calls make is longer than what came in: it says more and counts as full. Else prove '..UptoSaid'. A law counts once. -/
mutual
def uptoBulk {H : Type} : DataW H → Nat
  | .lit (.string bytes) => bytes.length + 1
  | .lit _ => 1
  | .nil => 1
  | .ptr d => uptoBulk d + 1
  | .slice elems spare => uptoBulkAll elems + uptoBulkAll spare + 1
  | .agg parts => uptoBulkAll parts + 1
  | .iface _ d => uptoBulk d + 1
  | .map entries => uptoBulkEntries entries + 1
  | .held _ => 1
def uptoBulkAll {H : Type} : List (DataW H) → Nat
  | [] => 0
  | d :: r => uptoBulk d + uptoBulkAll r
def uptoBulkEntries {H : Type} : List (Lit × DataW H) → Nat
  | [] => 0
  | x :: r => uptoBulkEntry x + uptoBulkEntries r
def uptoBulkEntry {H : Type} : Lit × DataW H → Nat
  | (.string bytes, d) => bytes.length + uptoBulk d + 1
  | (_, d) => uptoBulk d + 1
 end
def uptoSmall : (H : Type) → List (DataW H) → Bool := fun _ ds => decide (uptoBulkAll ds ≤ 1048576)
def OpenSpec.upto (s : _root_.Go.ChangeSpec) : _root_.Go.OpenSpec := { _root_.Go.OpenSpec.ofChange s with cond := some uptoSmall }

/-- 'dossierlaw13.LifeTells', WHERE WHAT IT READS IS OF BULK AT MOST 1048576: true; the input reads as it did. -/
def lifeTellsUptoRow : OpenClaim := { program := "ytoocccjeebmcoaa", sum := "baaf4e7c4243afcabe1c7366e9bc2cd9f0795fbf512e23dc78b950ea859a1aa2", func := "dossier/dossierlaw13.LifeTells", spec := "lifeTells", apart := false, narrowed := true }
def LifeTellsUptoSaid : Prop := lifeTellsUptoRow.holds Try.pinned (OpenSpec.upto lifeTellsSpec)

/-- 'dossierlaw13.LifeEnds', WHERE WHAT IT READS IS OF BULK AT MOST 1048576: true; the input reads as it did. -/
def lifeEndsUptoRow : OpenClaim := { program := "ytoocccjeebmcoaa", sum := "baaf4e7c4243afcabe1c7366e9bc2cd9f0795fbf512e23dc78b950ea859a1aa2", func := "dossier/dossierlaw13.LifeEnds", spec := "lifeEnds", apart := false, narrowed := true }
def LifeEndsUptoSaid : Prop := lifeEndsUptoRow.holds Try.pinned (OpenSpec.upto lifeEndsSpec)

/-- 'dossierlaw13.LifeWalks', WHERE WHAT IT READS IS OF BULK AT MOST 1048576: true; the input reads as it did. -/
def lifeWalksUptoRow : OpenClaim := { program := "ytoocccjeebmcoaa", sum := "baaf4e7c4243afcabe1c7366e9bc2cd9f0795fbf512e23dc78b950ea859a1aa2", func := "dossier/dossierlaw13.LifeWalks", spec := "lifeWalks", apart := false, narrowed := true }
def LifeWalksUptoSaid : Prop := lifeWalksUptoRow.holds Try.pinned (OpenSpec.upto lifeWalksSpec)

/-- 'dossierlaw13.LifeAsked', WHERE WHAT IT READS IS OF BULK AT MOST 1048576: true; the input reads as it did. -/
def lifeAskedUptoRow : OpenClaim := { program := "ytoocccjeebmcoaa", sum := "baaf4e7c4243afcabe1c7366e9bc2cd9f0795fbf512e23dc78b950ea859a1aa2", func := "dossier/dossierlaw13.LifeAsked", spec := "lifeAsked", apart := false, narrowed := true }
def LifeAskedUptoSaid : Prop := lifeAskedUptoRow.holds Try.pinned (OpenSpec.upto lifeAskedSpec)

/-- 'dossierlaw13.LifeTwo', WHERE WHAT IT READS IS OF BULK AT MOST 1048576: true; the input reads as it did. -/
def lifeTwoUptoRow : OpenClaim := { program := "ytoocccjeebmcoaa", sum := "baaf4e7c4243afcabe1c7366e9bc2cd9f0795fbf512e23dc78b950ea859a1aa2", func := "dossier/dossierlaw13.LifeTwo", spec := "lifeTwo", apart := false, narrowed := true }
def LifeTwoUptoSaid : Prop := lifeTwoUptoRow.holds Try.pinned (OpenSpec.upto lifeTwoSpec)

end Rows
end Go.Proofs.Ytoocccjeebmcoaa
