/-
  No cell of these rows narrows 'for every input' (looked for: loops, veiled, ifaces, maps, wideKeys, modest, calm, conditions, laid).
  DERIVED. THE GIVEN ROWS OF THIS SEAT. 4 by the template 'for every input the law returns true; each argument reads behind the call as it read before'; 0 by the template 'total and deterministic' (their statements: YtbbmdiagfcidiaaTotals.lean).
  GIVEN WITH THE SEED: the statements are not yours to turn. If you find one false, say at which input.
  Laid BY PROGRAM, IN A SANDBOX (cutbox-rows.mjs): the forced cells as the released guide's own fill.sh prints them over the translation 24256b35c2f30558… (all of the seat's roots in one cut). By AI agents, Wed Nov 11 2026. No macro, syntax, notation, axiom, sorry.
-/
import Derived.Test.YtbbmdiagfcidiaaChecked
import GoSem.Claim
import GoSem.ClaimJoined
import GoSem.ClaimMapViews
import Derived.JoinedTies
import Derived.KernelRfl
namespace Go.Proofs.Ytbbmdiagfcidiaa
/- THE CELL 'sum', in the pinned program and in every row, IS THE sha256 OF THE DUMP (.gsa) THAT YtbbmdiagfcidiaaProg.lean LOADS. Nothing in Lean hashes anything: it is a label: what it is worth is what the hold of that sum in a sandbox is worth. -/
noncomputable def Try.pinned : Pinned := { name := "ytbbmdiagfcidiaa", sum := "24256b35c2f3055859a5cdc4dfe6dd971c1e7acaae8d1cefb8c7af313d5ef14c", checked := Try.checked }
namespace Rows
def none {H : Type} : Left H := { results := [], args := [] }

/-- 'redoubtlaw17.SeamCommon': WHATEVER THE INPUT: true; the input reads as it did. -/
def seamCommonSpec : ChangeSpec := { name := "seamCommon", fn := fun _ => fun
  | [d] => { results := [.lit (.bool true)], args := [d] }
  | _ => none }
def seamCommonRow : OpenClaim := { program := "ytbbmdiagfcidiaa", sum := "24256b35c2f3055859a5cdc4dfe6dd971c1e7acaae8d1cefb8c7af313d5ef14c", func := "redoubt/redoubtlaw17.SeamCommon", spec := "seamCommon", apart := false }
def SeamCommonSaid : Prop := seamCommonRow.holds Try.pinned (OpenSpec.ofChange seamCommonSpec)

/-- ITS FALSE NEIGHBOUR: 'it returns false'. Refute it at one input. -/
def seamCommonWrong : ChangeSpec := { name := "seamCommon", fn := fun _ => fun
  | [d] => { results := [.lit (.bool false)], args := [d] }
  | _ => none }
def SeamCommonWrongFalsely : Prop := seamCommonRow.holds Try.pinned (OpenSpec.ofChange seamCommonWrong)

/-- 'redoubtlaw17.SeamHints': WHATEVER THE INPUT: true; the input reads as it did. -/
def seamHintsSpec : ChangeSpec := { name := "seamHints", fn := fun _ => fun
  | [d1, d2, d3, d4] => { results := [.lit (.bool true)], args := [d1, d2, d3, d4] }
  | _ => none }
def seamHintsRow : OpenClaim := { program := "ytbbmdiagfcidiaa", sum := "24256b35c2f3055859a5cdc4dfe6dd971c1e7acaae8d1cefb8c7af313d5ef14c", func := "redoubt/redoubtlaw17.SeamHints", spec := "seamHints", apart := false }
def SeamHintsSaid : Prop := seamHintsRow.holds Try.pinned (OpenSpec.ofChange seamHintsSpec)

/-- ITS FALSE NEIGHBOUR: 'it returns false'. Refute it at one input. -/
def seamHintsWrong : ChangeSpec := { name := "seamHints", fn := fun _ => fun
  | [d1, d2, d3, d4] => { results := [.lit (.bool false)], args := [d1, d2, d3, d4] }
  | _ => none }
def SeamHintsWrongFalsely : Prop := seamHintsRow.holds Try.pinned (OpenSpec.ofChange seamHintsWrong)

/-- 'redoubtlaw17.SeamFinds': WHATEVER THE INPUT: true; the input reads as it did. -/
def seamFindsSpec : ChangeSpec := { name := "seamFinds", fn := fun _ => fun
  | [d1, d2] => { results := [.lit (.bool true)], args := [d1, d2] }
  | _ => none }
def seamFindsRow : OpenClaim := { program := "ytbbmdiagfcidiaa", sum := "24256b35c2f3055859a5cdc4dfe6dd971c1e7acaae8d1cefb8c7af313d5ef14c", func := "redoubt/redoubtlaw17.SeamFinds", spec := "seamFinds", apart := false }
def SeamFindsSaid : Prop := seamFindsRow.holds Try.pinned (OpenSpec.ofChange seamFindsSpec)

/-- ITS FALSE NEIGHBOUR: 'it returns false'. Refute it at one input. -/
def seamFindsWrong : ChangeSpec := { name := "seamFinds", fn := fun _ => fun
  | [d1, d2] => { results := [.lit (.bool false)], args := [d1, d2] }
  | _ => none }
def SeamFindsWrongFalsely : Prop := seamFindsRow.holds Try.pinned (OpenSpec.ofChange seamFindsWrong)

/-- 'redoubtlaw17.SeamNever': WHATEVER THE INPUT: true; the input reads as it did. -/
def seamNeverSpec : ChangeSpec := { name := "seamNever", fn := fun _ => fun
  | [d1, d2, d3] => { results := [.lit (.bool true)], args := [d1, d2, d3] }
  | _ => none }
def seamNeverRow : OpenClaim := { program := "ytbbmdiagfcidiaa", sum := "24256b35c2f3055859a5cdc4dfe6dd971c1e7acaae8d1cefb8c7af313d5ef14c", func := "redoubt/redoubtlaw17.SeamNever", spec := "seamNever", apart := false }
def SeamNeverSaid : Prop := seamNeverRow.holds Try.pinned (OpenSpec.ofChange seamNeverSpec)

/-- ITS FALSE NEIGHBOUR: 'it returns false'. Refute it at one input. -/
def seamNeverWrong : ChangeSpec := { name := "seamNever", fn := fun _ => fun
  | [d1, d2, d3] => { results := [.lit (.bool false)], args := [d1, d2, d3] }
  | _ => none }
def SeamNeverWrongFalsely : Prop := seamNeverRow.holds Try.pinned (OpenSpec.ofChange seamNeverWrong)

/- THE SECOND FORM. 'bulk': how many values and letters a reading holds, each counted each time it is reached (what is shared counts as often as it is met; a slice's spare places count too). A statement '..UptoSaid' is the law's where the arguments, and the package variables that the reading takes, are together of bulk at most 1048576: NARROWER than '..Said'. Prove '..Said' where nothing that the law and all that it calls make is longer than what came in: it says more and counts as full. Else prove '..UptoSaid'. A law counts once. -/
mutual
def uptoBulk {H : Type} : DataW H → Nat
  | .lit (.string bytes) => bytes.length + 1
  | .lit _ => 1
  | .nil => 1
  | .ptr d => uptoBulk d + 1
  | .slice elems spare => uptoBulkAll elems + uptoBulkAll spare + 1
  | .agg parts => uptoBulkAll parts + 1
  | .iface _ d => uptoBulk d + 1
  | .map entries => uptoBulkEntries entries + 1
  | .held _ => 1
def uptoBulkAll {H : Type} : List (DataW H) → Nat
  | [] => 0
  | d :: r => uptoBulk d + uptoBulkAll r
def uptoBulkEntries {H : Type} : List (Lit × DataW H) → Nat
  | [] => 0
  | x :: r => uptoBulkEntry x + uptoBulkEntries r
def uptoBulkEntry {H : Type} : Lit × DataW H → Nat
  | (.string bytes, d) => bytes.length + uptoBulk d + 1
  | (_, d) => uptoBulk d + 1
 end
def uptoSmall : (H : Type) → List (DataW H) → Bool := fun _ ds => decide (uptoBulkAll ds ≤ 1048576)
def OpenSpec.upto (s : _root_.Go.ChangeSpec) : _root_.Go.OpenSpec := { _root_.Go.OpenSpec.ofChange s with cond := some uptoSmall }

/-- 'redoubtlaw17.SeamCommon', WHERE WHAT IT READS IS OF BULK AT MOST 1048576: true; the input reads as it did. -/
def seamCommonUptoRow : OpenClaim := { program := "ytbbmdiagfcidiaa", sum := "24256b35c2f3055859a5cdc4dfe6dd971c1e7acaae8d1cefb8c7af313d5ef14c", func := "redoubt/redoubtlaw17.SeamCommon", spec := "seamCommon", apart := false, narrowed := true }
def SeamCommonUptoSaid : Prop := seamCommonUptoRow.holds Try.pinned (OpenSpec.upto seamCommonSpec)

/-- 'redoubtlaw17.SeamHints', WHERE WHAT IT READS IS OF BULK AT MOST 1048576: true; the input reads as it did. -/
def seamHintsUptoRow : OpenClaim := { program := "ytbbmdiagfcidiaa", sum := "24256b35c2f3055859a5cdc4dfe6dd971c1e7acaae8d1cefb8c7af313d5ef14c", func := "redoubt/redoubtlaw17.SeamHints", spec := "seamHints", apart := false, narrowed := true }
def SeamHintsUptoSaid : Prop := seamHintsUptoRow.holds Try.pinned (OpenSpec.upto seamHintsSpec)

/-- 'redoubtlaw17.SeamFinds', WHERE WHAT IT READS IS OF BULK AT MOST 1048576: true; the input reads as it did. -/
def seamFindsUptoRow : OpenClaim := { program := "ytbbmdiagfcidiaa", sum := "24256b35c2f3055859a5cdc4dfe6dd971c1e7acaae8d1cefb8c7af313d5ef14c", func := "redoubt/redoubtlaw17.SeamFinds", spec := "seamFinds", apart := false, narrowed := true }
def SeamFindsUptoSaid : Prop := seamFindsUptoRow.holds Try.pinned (OpenSpec.upto seamFindsSpec)

/-- 'redoubtlaw17.SeamNever', WHERE WHAT IT READS IS OF BULK AT MOST 1048576: true; the input reads as it did. -/
def seamNeverUptoRow : OpenClaim := { program := "ytbbmdiagfcidiaa", sum := "24256b35c2f3055859a5cdc4dfe6dd971c1e7acaae8d1cefb8c7af313d5ef14c", func := "redoubt/redoubtlaw17.SeamNever", spec := "seamNever", apart := false, narrowed := true }
def SeamNeverUptoSaid : Prop := seamNeverUptoRow.holds Try.pinned (OpenSpec.upto seamNeverSpec)

end Rows
end Go.Proofs.Ytbbmdiagfcidiaa
