/-
  THE WALKS OF THE LANE: a mail, a command, read whole.
-/
import Derived.Test.YtaipgdhdfpemcaaLaStore
namespace Go.Proofs.Ytaipgdhdfpemcaa
open Go.RowKit

set_option maxRecDepth 100000 in
set_option maxHeartbeats 4000000 in
theorem load_mail {o : Oper} (p : Tmp) (hop : o.op = .load 30 (.tmp p)) (F : Act) (W : World) (b : Nat) {x0 x1 x2 x3 x4 x5 x6 x7 x8 x9 x10 x11 x12 x13 x14 x15 x16 : Value} (hp : F.eval (.tmp p) = .pointer (some ⟨b, 0, none⟩)) (hbk : Blk W b 30 #[x0, x1, x2, x3, x4, x5, x6, x7, x8, x9, x10, x11, x12, x13, x14, x15, x16]) :
    (execOp F.eval o).run Try.prog W = .ok (.value (.agg #[x0, x1, x2, x3, x4, x5, x6, x7, x8, x9, x10, x11, x12, x13, x14, x15, x16])) W := by
  have d0 := hbk.cell 0
  have d1 := hbk.cell 1
  have d2 := hbk.cell 2
  have d3 := hbk.cell 3
  have d4 := hbk.cell 4
  have d5 := hbk.cell 5
  have d6 := hbk.cell 6
  have d7 := hbk.cell 7
  have d8 := hbk.cell 8
  have d9 := hbk.cell 9
  have d10 := hbk.cell 10
  have d11 := hbk.cell 11
  have d12 := hbk.cell 12
  have d13 := hbk.cell 13
  have d14 := hbk.cell 14
  have d15 := hbk.cell 15
  have d16 := hbk.cell 16
  simp at d0 d1 d2 d3 d4 d5 d6 d7 d8 d9 d10 d11 d12 d13 d14 d15 d16
  clear hbk
  have hp2 := act_tmp hp
  unfold execOp
  rw [hop]
  go_simp

set_option maxRecDepth 100000 in
set_option maxHeartbeats 4000000 in
theorem load_cmd {o : Oper} (p : Tmp) (hop : o.op = .load 47 (.tmp p)) (F : Act) (W : World) (b : Nat) {x0 x1 x2 x3 x4 x5 x6 x7 x8 x9 x10 x11 x12 x13 x14 x15 : Value} (hp : F.eval (.tmp p) = .pointer (some ⟨b, 0, none⟩)) (hbk : Blk W b 47 #[x0, x1, x2, x3, x4, x5, x6, x7, x8, x9, x10, x11, x12, x13, x14, x15]) :
    (execOp F.eval o).run Try.prog W = .ok (.value (.agg #[x0, x1, x2, x3, x4, x5, x6, x7, x8, x9, x10, x11, x12, x13, x14, x15])) W := by
  have d0 := hbk.cell 0
  have d1 := hbk.cell 1
  have d2 := hbk.cell 2
  have d3 := hbk.cell 3
  have d4 := hbk.cell 4
  have d5 := hbk.cell 5
  have d6 := hbk.cell 6
  have d7 := hbk.cell 7
  have d8 := hbk.cell 8
  have d9 := hbk.cell 9
  have d10 := hbk.cell 10
  have d11 := hbk.cell 11
  have d12 := hbk.cell 12
  have d13 := hbk.cell 13
  have d14 := hbk.cell 14
  have d15 := hbk.cell 15
  simp at d0 d1 d2 d3 d4 d5 d6 d7 d8 d9 d10 d11 d12 d13 d14 d15
  clear hbk
  have hp2 := act_tmp hp
  unfold execOp
  rw [hop]
  go_simp
end Go.Proofs.Ytaipgdhdfpemcaa
