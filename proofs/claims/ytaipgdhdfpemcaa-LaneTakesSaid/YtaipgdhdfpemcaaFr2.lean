/-
  A WALK PARTED INTO THEOREMS, further words: pairs, choices and blocks by their names. No program in sight.
-/
import Derived.Test.YtaipgdhdfpemcaaFr
import Derived.Test.YtaipgdhdfpemcaaDraw3
namespace Go.Proofs.Ytaipgdhdfpemcaa
open Go.RowKit

section
variable {P : Program} {Q : Exit → Act → World → Prop} {a : Act} {w : World} {c x y : Code}
theorem wp_two (h : c = Code.seq x y) (hx : x.wp P (Exit.then (y.wp P Q) Q) a w) : c.wp P Q a w := by
  subst h
  exact wp_seq hx
theorem wp_if {o : Operand} {t : Bool} (h : c = Code.cond o x y) (hc : a.eval o = .bool t) (hx : t = true → x.wp P Q a w) (hy : t = false → y.wp P Q a w) : c.wp P Q a w := by
  subst h
  cases t with
  | true => exact wp_cond_true hc (hx rfl)
  | false => exact wp_cond_false hc (hy rfl)
theorem wp_blk {id : Nat} (h : c = Code.block id x) (hx : x.wp P (Exit.inBlock id Q) a w) : c.wp P Q a w := by
  subst h
  exact wp_block hx
theorem wp_nop (h : c = Code.skip) (hq : Q .normal a w) : c.wp P Q a w := by
  subst h
  exact wp_skip hq
theorem eval_at {t k : Nat} {v : Value} (h : at_ a.tmps t = v) (hk : k = t) : a.eval (.tmp k) = v := by
  subst hk
  rw [← h]
  simp [Act.eval, at_]
end
theorem wanted_undef {ops : Array Oper} {F : Act} {o : Oper} {j t : Nat} {b : Bool} (h : o.guard = some (j, b)) (hj : dstAt ops j = some t) (hv : F.eval (.tmp t) = undef) : Region.wanted o (yielded ops F.tmps) = false := by
  have hd : (ops[j]?).bind (·.dst) = some t := hj
  have h2 : F.tmps[t]?.getD undef = undef := act_tmp hv
  cases hx : F.tmps[t]? with
  | none => simp [Region.wanted, h, yielded, hd, hx]
  | some v =>
    rw [hx] at h2
    have h3 : v = undef := by simpa using h2
    subst h3
    simp [Region.wanted, h, yielded, hd, hx, undef]
end Go.Proofs.Ytaipgdhdfpemcaa
