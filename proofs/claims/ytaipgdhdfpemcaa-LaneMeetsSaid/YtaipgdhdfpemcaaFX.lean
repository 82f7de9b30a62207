/- VALUES OF SLOTS, read off what is known, where a test is known. -/
import Derived.Test.YtaipgdhdfpemcaaF4
namespace Go.Proofs.Ytaipgdhdfpemcaa
set_option linter.all false
open Go.RowKit
section
variable {P:Program} {ops:Array Oper} {F:Act} {o:Oper} {U:Nat->Value} {W:World} {v:Value} {i:Nat} {X:Nat->Prop}
theorem nY (j:Nat) (t:Tmp) (hat:Hid (∀ (j:Nat) (t:Tmp),j<ops.size->dstAt ops j=some t->F.eval (.tmp t)=U j):=by exact qa) (hp:Hid (∀ j,j<i->X j):=by exact qb) (h1:j<ops.size:=by exact kd) (h2:dstAt ops j=some t:=by kernel_rfl) (h3:j<i:=by omega) (h4:X j->U j=v:=by intro h;rewrite [q0] at h;exact h):F.tmps[t]?.getD undef=v:=act_tmp (nv hat hp j t h1 h2 h3 h4)
theorem nZ (j:Nat) (t:Tmp) (hat:Hid (∀ (j:Nat) (t:Tmp),j<ops.size->dstAt ops j=some t->F.eval (.tmp t)=U j):=by exact qa) (hp:Hid (∀ j,j<i->X j):=by exact qb) (h1:j<ops.size:=by exact kd) (h2:dstAt ops j=some t:=by kernel_rfl) (h3:j<i:=by omega) (h4:X j->U j=v:=by intro h;rewrite [qp] at h;exact h):F.tmps[t]?.getD undef=v:=act_tmp (nv hat hp j t h1 h2 h3 h4)
end
end Go.Proofs.Ytaipgdhdfpemcaa
