/-
  A WALK PARTED INTO THEOREMS: the parts of a function's code by their path; what a frame is known to hold, its other slots let be. No program in sight.
-/
import Derived.Test.YtaipgdhdfpemcaaMem
import Derived.Says
import Derived.Tactics2
namespace Go.Proofs.Ytaipgdhdfpemcaa
open Go.RowKit

/-- a part of a function's code, by its path: 0 the first, 1 the second of a pair; 0 what a block or a loop holds -/
def part : List Nat → Code → Code
  | [], c => c
  | 0 :: p, .seq a _ => part p a
  | _ :: p, .seq _ b => part p b
  | 0 :: p, .cond _ a _ => part p a
  | _ :: p, .cond _ _ b => part p b
  | _ :: p, .block _ c => part p c
  | _ :: p, .loop c => part p c
  | _ :: p, .scope c => part p c
  | _ :: _, c => c
/-- a region's operations -/
def opsOf : Code → List Oper
  | .region _ ops _ => ops.toList
  | _ => []
/-- a function's code -/
def codeOf (f : Func) : Code := f.body.getD .skip

/-- what a slot holds -/
def at_ (t : Array Value) (k : Nat) : Value := t.getD k undef
def Slots (t : Array Value) : List (Nat × Value) → Prop
  | [] => True
  | (k, v) :: l => at_ t k = v ∧ Slots t l
/-- a frame of so many slots, some of which are known -/
def Fr (n : Nat) (a : Act) (l : List (Nat × Value)) : Prop := a.defers = [] ∧ a.tmps.size = n ∧ Slots a.tmps l

theorem eta_ (t : Array Value) {n : Nat} (h : t.size = n) : t = ((List.range n).map (at_ t)).toArray := by
  subst h
  apply Array.ext_getElem?
  intro i
  by_cases hi : i < t.size
  · simp [hi, at_]
  · simp [Nat.not_lt.1 hi]

section
variable {P : Program} {Q : Exit → Act → World → Prop} {a : Act} {w : World}
theorem wp_part {c x y : Code} (h : c = Code.seq x y) (hx : ∀ K : Act → World → Prop, (∀ a w, y.wp P Q a w → K a w) → x.wp P (Exit.then K Q) a w) : c.wp P Q a w := by
  subst h
  exact wp_seq_k hx
/-- a region, its operations by name -/
theorem wp_region_ops {c : Code} {id : Nat} (h : c = .region id (opsOf c).toArray false) (hw : wpList P (opsOf c).toArray Q (opsOf c) a w) : c.wp P Q a w := by
  rw [h]
  exact wp_region_lit hw
end
end Go.Proofs.Ytaipgdhdfpemcaa
