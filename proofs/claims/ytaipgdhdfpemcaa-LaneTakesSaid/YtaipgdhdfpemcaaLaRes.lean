/-
  THE WALKS OF THE LANE: what Meet hands back.
-/
import Derived.Test.YtaipgdhdfpemcaaLaStore
namespace Go.Proofs.Ytaipgdhdfpemcaa
open Go.RowKit

set_option maxRecDepth 100000 in
set_option maxHeartbeats 4000000 in
/-- what Meet hands back -/
theorem meet_results {T : Array Value} {W : World} {b6 b7 : Nat} {n : Int} {x0 x1 x2 x3 x4 x9 x10 x11 x12 x13 x14 : Int} {x5 : Bool} {x7 : ByteArray} {x6 x8 x15 x16 : Option Addr} {x6n x6c x8n x8c x15n x15c x16n x16c : Nat} {y0 y1 y2 y3 y4 y5 y6 y7 y8 y10 y12 y13 y15 : Int} {y9 : ByteArray} {y11 y14 : Option Addr} {y11n y11c y14n y14c : Nat} (h6 : T[6]?.getD undef = .pointer (some ⟨b6, 0, none⟩)) (h7 : T[7]?.getD undef = .pointer (some ⟨b7, 0, none⟩)) (h8 : T[8]?.getD undef = .int .i64 n)
    (hm : Blk W b6 30 #[.int .i64 x0, .int .i64 x1, .int .i64 x2, .int .i64 x3, .int .i64 x4, .bool x5, .slice x6 x6n x6c, .string x7, .slice x8 x8n x8c, .int .i64 x9, .int .i64 x10, .int .i64 x11, .int .i64 x12, .int .i64 x13, .int .i64 x14, .slice x15 x15n x15c, .slice x16 x16n x16c]) (hc : Blk W b7 47 #[.int .i64 y0, .int .i64 y1, .int .i64 y2, .int .i64 y3, .int .i64 y4, .int .i64 y5, .int .i64 y6, .int .i64 y7, .int .i64 y8, .string y9, .int .i64 y10, .slice y11 y11n y11c, .int .i64 y12, .int .i64 y13, .slice y14 y14n y14c, .int .i64 y15]) :
    (results Try.f16 T).run Try.prog W = .ok (.tuple #[.agg #[.int .i64 x0, .int .i64 x1, .int .i64 x2, .int .i64 x3, .int .i64 x4, .bool x5, .slice x6 x6n x6c, .string x7, .slice x8 x8n x8c, .int .i64 x9, .int .i64 x10, .int .i64 x11, .int .i64 x12, .int .i64 x13, .int .i64 x14, .slice x15 x15n x15c, .slice x16 x16n x16c], .agg #[.int .i64 y0, .int .i64 y1, .int .i64 y2, .int .i64 y3, .int .i64 y4, .int .i64 y5, .int .i64 y6, .int .i64 y7, .int .i64 y8, .string y9, .int .i64 y10, .slice y11 y11n y11c, .int .i64 y12, .int .i64 y13, .slice y14 y14n y14c, .int .i64 y15], .int .i64 n]) W := by
  have d0 := hm.cell 0
  have d1 := hm.cell 1
  have d2 := hm.cell 2
  have d3 := hm.cell 3
  have d4 := hm.cell 4
  have d5 := hm.cell 5
  have d6 := hm.cell 6
  have d7 := hm.cell 7
  have d8 := hm.cell 8
  have d9 := hm.cell 9
  have d10 := hm.cell 10
  have d11 := hm.cell 11
  have d12 := hm.cell 12
  have d13 := hm.cell 13
  have d14 := hm.cell 14
  have d15 := hm.cell 15
  have d16 := hm.cell 16
  simp at d0 d1 d2 d3 d4 d5 d6 d7 d8 d9 d10 d11 d12 d13 d14 d15 d16
  have k0 := hc.cell 0
  have k1 := hc.cell 1
  have k2 := hc.cell 2
  have k3 := hc.cell 3
  have k4 := hc.cell 4
  have k5 := hc.cell 5
  have k6 := hc.cell 6
  have k7 := hc.cell 7
  have k8 := hc.cell 8
  have k9 := hc.cell 9
  have k10 := hc.cell 10
  have k11 := hc.cell 11
  have k12 := hc.cell 12
  have k13 := hc.cell 13
  have k14 := hc.cell 14
  have k15 := hc.cell 15
  simp at k0 k1 k2 k3 k4 k5 k6 k7 k8 k9 k10 k11 k12 k13 k14 k15
  clear hm hc
  simp [results, Try.results16, h6, h7, h8, d0, d1, d2, d3, d4, d5, d6, d7, d8, d9, d10, d11, d12, d13, d14, d15, d16, k0, k1, k2, k3, k4, k5, k6, k7, k8, k9, k10, k11, k12, k13, k14, k15, go_sem]
end Go.Proofs.Ytaipgdhdfpemcaa
