/-
  THE WALKS OF THE LANE: a mail, a command, stored whole.
-/
import Derived.Test.YtaipgdhdfpemcaaLaDeed
import Derived.Test.YtaipgdhdfpemcaaDraw2
namespace Go.Proofs.Ytaipgdhdfpemcaa
open Go.RowKit

set_option maxRecDepth 100000 in
set_option maxHeartbeats 4000000 in
theorem store_mail {o : Oper} (p v : Tmp) (hop : o.op = .store 30 (.tmp p) (.tmp v)) (F : Act) (W : World) (b : Nat) {a0 a1 a2 a3 a4 a5 a6 a7 a8 a9 a10 a11 a12 a13 a14 a15 a16 : Value} {x0 x1 x2 x3 x4 x9 x10 x11 x12 x13 x14 : Int} {x5 : Bool} {x7 : ByteArray} {x6 x8 x15 x16 : Option Addr} {y6 z6 y8 z8 y15 z15 y16 z16 : Nat} (hp : F.eval (.tmp p) = .pointer (some ⟨b, 0, none⟩)) (hv : F.eval (.tmp v) = .agg #[.int .i64 x0, .int .i64 x1, .int .i64 x2, .int .i64 x3, .int .i64 x4, .bool x5, .slice x6 y6 z6, .string x7, .slice x8 y8 z8, .int .i64 x9, .int .i64 x10, .int .i64 x11, .int .i64 x12, .int .i64 x13, .int .i64 x14, .slice x15 y15 z15, .slice x16 y16 z16]) (hbk : Blk W b 30 #[a0, a1, a2, a3, a4, a5, a6, a7, a8, a9, a10, a11, a12, a13, a14, a15, a16]) :
    (execOp F.eval o).run Try.prog W = .ok .skip (putCells W b 0 [.int .i64 x0, .int .i64 x1, .int .i64 x2, .int .i64 x3, .int .i64 x4, .bool x5, .slice x6 y6 z6, .string x7, .slice x8 y8 z8, .int .i64 x9, .int .i64 x10, .int .i64 x11, .int .i64 x12, .int .i64 x13, .int .i64 x14, .slice x15 y15 z15, .slice x16 y16 z16]) := by
  have f0 := hbk.frozen 0
  have d0 := hbk.cell 0
  have f1 := hbk.frozen 1
  have d1 := hbk.cell 1
  have f2 := hbk.frozen 2
  have d2 := hbk.cell 2
  have f3 := hbk.frozen 3
  have d3 := hbk.cell 3
  have f4 := hbk.frozen 4
  have d4 := hbk.cell 4
  have f5 := hbk.frozen 5
  have d5 := hbk.cell 5
  have f6 := hbk.frozen 6
  have d6 := hbk.cell 6
  have f7 := hbk.frozen 7
  have d7 := hbk.cell 7
  have f8 := hbk.frozen 8
  have d8 := hbk.cell 8
  have f9 := hbk.frozen 9
  have d9 := hbk.cell 9
  have f10 := hbk.frozen 10
  have d10 := hbk.cell 10
  have f11 := hbk.frozen 11
  have d11 := hbk.cell 11
  have f12 := hbk.frozen 12
  have d12 := hbk.cell 12
  have f13 := hbk.frozen 13
  have d13 := hbk.cell 13
  have f14 := hbk.frozen 14
  have d14 := hbk.cell 14
  have f15 := hbk.frozen 15
  have d15 := hbk.cell 15
  have f16 := hbk.frozen 16
  have d16 := hbk.cell 16
  simp at d0 d1 d2 d3 d4 d5 d6 d7 d8 d9 d10 d11 d12 d13 d14 d15 d16
  clear hbk
  have hp2 := act_tmp hp
  have hv2 := act_tmp hv
  unfold execOp
  rw [hop]
  go_simp
  rfl

set_option maxRecDepth 100000 in
set_option maxHeartbeats 4000000 in
theorem store_cmd {o : Oper} (p v : Tmp) (hop : o.op = .store 47 (.tmp p) (.tmp v)) (F : Act) (W : World) (b : Nat) {a0 a1 a2 a3 a4 a5 a6 a7 a8 a9 a10 a11 a12 a13 a14 a15 : Value} {x0 x1 x2 x3 x4 x5 x6 x7 x8 x10 x12 x13 x15 : Int} {x9 : ByteArray} {x11 x14 : Option Addr} {y11 z11 y14 z14 : Nat} (hp : F.eval (.tmp p) = .pointer (some ⟨b, 0, none⟩)) (hv : F.eval (.tmp v) = .agg #[.int .i64 x0, .int .i64 x1, .int .i64 x2, .int .i64 x3, .int .i64 x4, .int .i64 x5, .int .i64 x6, .int .i64 x7, .int .i64 x8, .string x9, .int .i64 x10, .slice x11 y11 z11, .int .i64 x12, .int .i64 x13, .slice x14 y14 z14, .int .i64 x15]) (hbk : Blk W b 47 #[a0, a1, a2, a3, a4, a5, a6, a7, a8, a9, a10, a11, a12, a13, a14, a15]) :
    (execOp F.eval o).run Try.prog W = .ok .skip (putCells W b 0 [.int .i64 x0, .int .i64 x1, .int .i64 x2, .int .i64 x3, .int .i64 x4, .int .i64 x5, .int .i64 x6, .int .i64 x7, .int .i64 x8, .string x9, .int .i64 x10, .slice x11 y11 z11, .int .i64 x12, .int .i64 x13, .slice x14 y14 z14, .int .i64 x15]) := by
  have f0 := hbk.frozen 0
  have d0 := hbk.cell 0
  have f1 := hbk.frozen 1
  have d1 := hbk.cell 1
  have f2 := hbk.frozen 2
  have d2 := hbk.cell 2
  have f3 := hbk.frozen 3
  have d3 := hbk.cell 3
  have f4 := hbk.frozen 4
  have d4 := hbk.cell 4
  have f5 := hbk.frozen 5
  have d5 := hbk.cell 5
  have f6 := hbk.frozen 6
  have d6 := hbk.cell 6
  have f7 := hbk.frozen 7
  have d7 := hbk.cell 7
  have f8 := hbk.frozen 8
  have d8 := hbk.cell 8
  have f9 := hbk.frozen 9
  have d9 := hbk.cell 9
  have f10 := hbk.frozen 10
  have d10 := hbk.cell 10
  have f11 := hbk.frozen 11
  have d11 := hbk.cell 11
  have f12 := hbk.frozen 12
  have d12 := hbk.cell 12
  have f13 := hbk.frozen 13
  have d13 := hbk.cell 13
  have f14 := hbk.frozen 14
  have d14 := hbk.cell 14
  have f15 := hbk.frozen 15
  have d15 := hbk.cell 15
  simp at d0 d1 d2 d3 d4 d5 d6 d7 d8 d9 d10 d11 d12 d13 d14 d15
  clear hbk
  have hp2 := act_tmp hp
  have hv2 := act_tmp hv
  unfold execOp
  rw [hop]
  go_simp
  rfl
end Go.Proofs.Ytaipgdhdfpemcaa
