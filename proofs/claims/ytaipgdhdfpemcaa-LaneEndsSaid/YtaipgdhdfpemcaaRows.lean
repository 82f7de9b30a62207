/-
  No cell of these rows narrows 'for every input' (looked for: loops, veiled, ifaces, maps, wideKeys, modest, calm, conditions, laid).
  DERIVED. THE GIVEN ROWS OF THIS SEAT. 5 by the template 'for every input the law returns true; each argument reads behind the call as it read before'; 0 by the template 'total and deterministic' (their statements: YtaipgdhdfpemcaaTotals.lean).
  GIVEN WITH THE SEED: the statements are not yours to turn. If you find one false, say at which input.
  Laid BY PROGRAM, IN A SANDBOX (cutbox-rows.mjs): the forced cells as the released guide's own fill.sh prints them over the translation 990afca2e0978301… (all of the seat's roots in one cut). By AI agents, Wed Nov 11 2026. No macro, syntax, notation, axiom, sorry.
-/
import Derived.Test.YtaipgdhdfpemcaaChecked
import GoSem.Claim
import GoSem.ClaimJoined
import GoSem.ClaimMapViews
import Derived.JoinedTies
import Derived.KernelRfl
namespace Go.Proofs.Ytaipgdhdfpemcaa
/- THE CELL 'sum', in the pinned program and in every row, IS THE sha256 OF THE DUMP (.gsa) THAT YtaipgdhdfpemcaaProg.lean LOADS. Nothing in Lean hashes anything: it is a label: what it is worth is what the hold of that sum in a sandbox is worth. -/
noncomputable def Try.pinned : Pinned := { name := "ytaipgdhdfpemcaa", sum := "990afca2e0978301c797b81eed277a18cb6a161108446635f15055ffa7f99c19", checked := Try.checked }
namespace Rows
def none {H : Type} : Left H := { results := [], args := [] }

/-- 'redoubtlaw18.LaneMeets': WHATEVER THE INPUT: true; the input reads as it did. -/
def laneMeetsSpec : ChangeSpec := { name := "laneMeets", fn := fun _ => fun
  | [d1, d2, d3] => { results := [.lit (.bool true)], args := [d1, d2, d3] }
  | _ => none }
def laneMeetsRow : OpenClaim := { program := "ytaipgdhdfpemcaa", sum := "990afca2e0978301c797b81eed277a18cb6a161108446635f15055ffa7f99c19", func := "redoubt/redoubtlaw18.LaneMeets", spec := "laneMeets", unfollowed := true, recurses := true, plainKeys := false, apart := false }
def LaneMeetsSaid : Prop := laneMeetsRow.holds Try.pinned (OpenSpec.ofChange laneMeetsSpec)

/-- ITS FALSE NEIGHBOUR: 'it returns false'. Refute it at one input. -/
def laneMeetsWrong : ChangeSpec := { name := "laneMeets", fn := fun _ => fun
  | [d1, d2, d3] => { results := [.lit (.bool false)], args := [d1, d2, d3] }
  | _ => none }
def LaneMeetsWrongFalsely : Prop := laneMeetsRow.holds Try.pinned (OpenSpec.ofChange laneMeetsWrong)

/-- 'redoubtlaw18.LaneEnds': WHATEVER THE INPUT: true; the input reads as it did. -/
def laneEndsSpec : ChangeSpec := { name := "laneEnds", fn := fun _ => fun
  | [d1, d2, d3] => { results := [.lit (.bool true)], args := [d1, d2, d3] }
  | _ => none }
def laneEndsRow : OpenClaim := { program := "ytaipgdhdfpemcaa", sum := "990afca2e0978301c797b81eed277a18cb6a161108446635f15055ffa7f99c19", func := "redoubt/redoubtlaw18.LaneEnds", spec := "laneEnds", unfollowed := true, recurses := true, plainKeys := false, apart := false }
def LaneEndsSaid : Prop := laneEndsRow.holds Try.pinned (OpenSpec.ofChange laneEndsSpec)

/-- ITS FALSE NEIGHBOUR: 'it returns false'. Refute it at one input. -/
def laneEndsWrong : ChangeSpec := { name := "laneEnds", fn := fun _ => fun
  | [d1, d2, d3] => { results := [.lit (.bool false)], args := [d1, d2, d3] }
  | _ => none }
def LaneEndsWrongFalsely : Prop := laneEndsRow.holds Try.pinned (OpenSpec.ofChange laneEndsWrong)

/-- 'redoubtlaw18.LaneMarks': WHATEVER THE INPUT: true; the input reads as it did. -/
def laneMarksSpec : ChangeSpec := { name := "laneMarks", fn := fun _ => fun
  | [d1, d2, d3, d4] => { results := [.lit (.bool true)], args := [d1, d2, d3, d4] }
  | _ => none }
def laneMarksRow : OpenClaim := { program := "ytaipgdhdfpemcaa", sum := "990afca2e0978301c797b81eed277a18cb6a161108446635f15055ffa7f99c19", func := "redoubt/redoubtlaw18.LaneMarks", spec := "laneMarks", unfollowed := true, recurses := true, plainKeys := false, apart := false }
def LaneMarksSaid : Prop := laneMarksRow.holds Try.pinned (OpenSpec.ofChange laneMarksSpec)

/-- ITS FALSE NEIGHBOUR: 'it returns false'. Refute it at one input. -/
def laneMarksWrong : ChangeSpec := { name := "laneMarks", fn := fun _ => fun
  | [d1, d2, d3, d4] => { results := [.lit (.bool false)], args := [d1, d2, d3, d4] }
  | _ => none }
def LaneMarksWrongFalsely : Prop := laneMarksRow.holds Try.pinned (OpenSpec.ofChange laneMarksWrong)

/-- 'redoubtlaw18.LaneTakes': WHATEVER THE INPUT: true; the input reads as it did. -/
def laneTakesSpec : ChangeSpec := { name := "laneTakes", fn := fun _ => fun
  | [d1, d2, d3, d4, d5] => { results := [.lit (.bool true)], args := [d1, d2, d3, d4, d5] }
  | _ => none }
def laneTakesRow : OpenClaim := { program := "ytaipgdhdfpemcaa", sum := "990afca2e0978301c797b81eed277a18cb6a161108446635f15055ffa7f99c19", func := "redoubt/redoubtlaw18.LaneTakes", spec := "laneTakes", unfollowed := true, recurses := true, plainKeys := false, apart := false }
def LaneTakesSaid : Prop := laneTakesRow.holds Try.pinned (OpenSpec.ofChange laneTakesSpec)

/-- ITS FALSE NEIGHBOUR: 'it returns false'. Refute it at one input. -/
def laneTakesWrong : ChangeSpec := { name := "laneTakes", fn := fun _ => fun
  | [d1, d2, d3, d4, d5] => { results := [.lit (.bool false)], args := [d1, d2, d3, d4, d5] }
  | _ => none }
def LaneTakesWrongFalsely : Prop := laneTakesRow.holds Try.pinned (OpenSpec.ofChange laneTakesWrong)

/-- 'redoubtlaw18.LaneNil': WHATEVER THE INPUT: true; the input reads as it did. -/
def laneNilSpec : ChangeSpec := { name := "laneNil", fn := fun _ => fun
  | [d] => { results := [.lit (.bool true)], args := [d] }
  | _ => none }
def laneNilRow : OpenClaim := { program := "ytaipgdhdfpemcaa", sum := "990afca2e0978301c797b81eed277a18cb6a161108446635f15055ffa7f99c19", func := "redoubt/redoubtlaw18.LaneNil", spec := "laneNil", unfollowed := true, recurses := true, plainKeys := false, apart := false }
def LaneNilSaid : Prop := laneNilRow.holds Try.pinned (OpenSpec.ofChange laneNilSpec)

/-- ITS FALSE NEIGHBOUR: 'it returns false'. Refute it at one input. -/
def laneNilWrong : ChangeSpec := { name := "laneNil", fn := fun _ => fun
  | [d] => { results := [.lit (.bool false)], args := [d] }
  | _ => none }
def LaneNilWrongFalsely : Prop := laneNilRow.holds Try.pinned (OpenSpec.ofChange laneNilWrong)

/- THE SECOND FORM. 'bulk': how many values and letters a reading holds, each counted each time it is reached (what is shared counts as often as it is met; a slice's spare places count too). A statement '..UptoSaid' is the law's where the arguments, and the package variables that the reading takes, are together of bulk at most 1048576: NARROWER than '..Said'. Prove '..Said' where nothing that the law and all that it calls make is longer than what came in: it says more and counts as full. Else prove '..UptoSaid'. A law counts once. -/
mutual
def uptoBulk {H : Type} : DataW H → Nat
  | .lit (.string bytes) => bytes.length + 1
  | .lit _ => 1
  | .nil => 1
  | .ptr d => uptoBulk d + 1
  | .slice elems spare => uptoBulkAll elems + uptoBulkAll spare + 1
  | .agg parts => uptoBulkAll parts + 1
  | .iface _ d => uptoBulk d + 1
  | .map entries => uptoBulkEntries entries + 1
  | .held _ => 1
def uptoBulkAll {H : Type} : List (DataW H) → Nat
  | [] => 0
  | d :: r => uptoBulk d + uptoBulkAll r
def uptoBulkEntries {H : Type} : List (Lit × DataW H) → Nat
  | [] => 0
  | x :: r => uptoBulkEntry x + uptoBulkEntries r
def uptoBulkEntry {H : Type} : Lit × DataW H → Nat
  | (.string bytes, d) => bytes.length + uptoBulk d + 1
  | (_, d) => uptoBulk d + 1
 end
def uptoSmall : (H : Type) → List (DataW H) → Bool := fun _ ds => decide (uptoBulkAll ds ≤ 1048576)
def OpenSpec.upto (s : _root_.Go.ChangeSpec) : _root_.Go.OpenSpec := { _root_.Go.OpenSpec.ofChange s with cond := some uptoSmall }

/-- 'redoubtlaw18.LaneMeets', WHERE WHAT IT READS IS OF BULK AT MOST 1048576: true; the input reads as it did. -/
def laneMeetsUptoRow : OpenClaim := { program := "ytaipgdhdfpemcaa", sum := "990afca2e0978301c797b81eed277a18cb6a161108446635f15055ffa7f99c19", func := "redoubt/redoubtlaw18.LaneMeets", spec := "laneMeets", unfollowed := true, recurses := true, plainKeys := false, apart := false, narrowed := true }
def LaneMeetsUptoSaid : Prop := laneMeetsUptoRow.holds Try.pinned (OpenSpec.upto laneMeetsSpec)

/-- 'redoubtlaw18.LaneEnds', WHERE WHAT IT READS IS OF BULK AT MOST 1048576: true; the input reads as it did. -/
def laneEndsUptoRow : OpenClaim := { program := "ytaipgdhdfpemcaa", sum := "990afca2e0978301c797b81eed277a18cb6a161108446635f15055ffa7f99c19", func := "redoubt/redoubtlaw18.LaneEnds", spec := "laneEnds", unfollowed := true, recurses := true, plainKeys := false, apart := false, narrowed := true }
def LaneEndsUptoSaid : Prop := laneEndsUptoRow.holds Try.pinned (OpenSpec.upto laneEndsSpec)

/-- 'redoubtlaw18.LaneMarks', WHERE WHAT IT READS IS OF BULK AT MOST 1048576: true; the input reads as it did. -/
def laneMarksUptoRow : OpenClaim := { program := "ytaipgdhdfpemcaa", sum := "990afca2e0978301c797b81eed277a18cb6a161108446635f15055ffa7f99c19", func := "redoubt/redoubtlaw18.LaneMarks", spec := "laneMarks", unfollowed := true, recurses := true, plainKeys := false, apart := false, narrowed := true }
def LaneMarksUptoSaid : Prop := laneMarksUptoRow.holds Try.pinned (OpenSpec.upto laneMarksSpec)

/-- 'redoubtlaw18.LaneTakes', WHERE WHAT IT READS IS OF BULK AT MOST 1048576: true; the input reads as it did. -/
def laneTakesUptoRow : OpenClaim := { program := "ytaipgdhdfpemcaa", sum := "990afca2e0978301c797b81eed277a18cb6a161108446635f15055ffa7f99c19", func := "redoubt/redoubtlaw18.LaneTakes", spec := "laneTakes", unfollowed := true, recurses := true, plainKeys := false, apart := false, narrowed := true }
def LaneTakesUptoSaid : Prop := laneTakesUptoRow.holds Try.pinned (OpenSpec.upto laneTakesSpec)

/-- 'redoubtlaw18.LaneNil', WHERE WHAT IT READS IS OF BULK AT MOST 1048576: true; the input reads as it did. -/
def laneNilUptoRow : OpenClaim := { program := "ytaipgdhdfpemcaa", sum := "990afca2e0978301c797b81eed277a18cb6a161108446635f15055ffa7f99c19", func := "redoubt/redoubtlaw18.LaneNil", spec := "laneNil", unfollowed := true, recurses := true, plainKeys := false, apart := false, narrowed := true }
def LaneNilUptoSaid : Prop := laneNilUptoRow.holds Try.pinned (OpenSpec.upto laneNilSpec)

end Rows
end Go.Proofs.Ytaipgdhdfpemcaa
