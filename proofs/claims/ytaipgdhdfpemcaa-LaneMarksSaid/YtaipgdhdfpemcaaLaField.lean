/-
  THE WALKS OF THE LANE: a mail's operations, out of its value.
-/
import Derived.Test.YtaipgdhdfpemcaaLaStore
namespace Go.Proofs.Ytaipgdhdfpemcaa
open Go.RowKit

theorem field_ops (kind term index prev commit : Int) (good : Bool) (eA : Option Addr) (en ec : Nat) (data : ByteArray) (hA : Option Addr) (hn hc : Nat) (epoch site atN atE whN whE : Int) (oA : Option Addr) (on oc : Nat) (pA : Option Addr) (pn pc : Nat) (w : World) :
    (Instr.field 30 (.agg (mailC kind term index prev commit good eA en ec data hA hn hc epoch site atN atE whN whE oA on oc pA pn pc)) 14).run Try.prog w = .ok (.slice pA pn pc) w := by
  kernel_rfl
end Go.Proofs.Ytaipgdhdfpemcaa
