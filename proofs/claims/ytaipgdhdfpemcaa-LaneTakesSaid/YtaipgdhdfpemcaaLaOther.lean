/-
  THE WALKS OF THE LANE: whether a mail of the kinds 9 and 10 may be: mail.other, part by part.
-/
import Derived.Test.YtaipgdhdfpemcaaLaOwnM
import Derived.Test.YtaipgdhdfpemcaaLaChk
import Derived.Deep.QuietTactic
import Derived.BigQuiet
namespace Go.Proofs.Ytaipgdhdfpemcaa
open Go.RowKit

theorem eta249 (t : Array Value) (h : t.size = 249) : t = #[at_ t 0, at_ t 1, at_ t 2, at_ t 3, at_ t 4, at_ t 5, at_ t 6, at_ t 7, at_ t 8, at_ t 9, at_ t 10, at_ t 11, at_ t 12, at_ t 13, at_ t 14, at_ t 15, at_ t 16, at_ t 17, at_ t 18, at_ t 19, at_ t 20, at_ t 21, at_ t 22, at_ t 23, at_ t 24, at_ t 25, at_ t 26, at_ t 27, at_ t 28, at_ t 29, at_ t 30, at_ t 31, at_ t 32, at_ t 33, at_ t 34, at_ t 35, at_ t 36, at_ t 37, at_ t 38, at_ t 39, at_ t 40, at_ t 41, at_ t 42, at_ t 43, at_ t 44, at_ t 45, at_ t 46, at_ t 47, at_ t 48, at_ t 49, at_ t 50, at_ t 51, at_ t 52, at_ t 53, at_ t 54, at_ t 55, at_ t 56, at_ t 57, at_ t 58, at_ t 59, at_ t 60, at_ t 61, at_ t 62, at_ t 63, at_ t 64, at_ t 65, at_ t 66, at_ t 67, at_ t 68, at_ t 69, at_ t 70, at_ t 71, at_ t 72, at_ t 73, at_ t 74, at_ t 75, at_ t 76, at_ t 77, at_ t 78, at_ t 79, at_ t 80, at_ t 81, at_ t 82, at_ t 83, at_ t 84, at_ t 85, at_ t 86, at_ t 87, at_ t 88, at_ t 89, at_ t 90, at_ t 91, at_ t 92, at_ t 93, at_ t 94, at_ t 95, at_ t 96, at_ t 97, at_ t 98, at_ t 99, at_ t 100, at_ t 101, at_ t 102, at_ t 103, at_ t 104, at_ t 105, at_ t 106, at_ t 107, at_ t 108, at_ t 109, at_ t 110, at_ t 111, at_ t 112, at_ t 113, at_ t 114, at_ t 115, at_ t 116, at_ t 117, at_ t 118, at_ t 119, at_ t 120, at_ t 121, at_ t 122, at_ t 123, at_ t 124, at_ t 125, at_ t 126, at_ t 127, at_ t 128, at_ t 129, at_ t 130, at_ t 131, at_ t 132, at_ t 133, at_ t 134, at_ t 135, at_ t 136, at_ t 137, at_ t 138, at_ t 139, at_ t 140, at_ t 141, at_ t 142, at_ t 143, at_ t 144, at_ t 145, at_ t 146, at_ t 147, at_ t 148, at_ t 149, at_ t 150, at_ t 151, at_ t 152, at_ t 153, at_ t 154, at_ t 155, at_ t 156, at_ t 157, at_ t 158, at_ t 159, at_ t 160, at_ t 161, at_ t 162, at_ t 163, at_ t 164, at_ t 165, at_ t 166, at_ t 167, at_ t 168, at_ t 169, at_ t 170, at_ t 171, at_ t 172, at_ t 173, at_ t 174, at_ t 175, at_ t 176, at_ t 177, at_ t 178, at_ t 179, at_ t 180, at_ t 181, at_ t 182, at_ t 183, at_ t 184, at_ t 185, at_ t 186, at_ t 187, at_ t 188, at_ t 189, at_ t 190, at_ t 191, at_ t 192, at_ t 193, at_ t 194, at_ t 195, at_ t 196, at_ t 197, at_ t 198, at_ t 199, at_ t 200, at_ t 201, at_ t 202, at_ t 203, at_ t 204, at_ t 205, at_ t 206, at_ t 207, at_ t 208, at_ t 209, at_ t 210, at_ t 211, at_ t 212, at_ t 213, at_ t 214, at_ t 215, at_ t 216, at_ t 217, at_ t 218, at_ t 219, at_ t 220, at_ t 221, at_ t 222, at_ t 223, at_ t 224, at_ t 225, at_ t 226, at_ t 227, at_ t 228, at_ t 229, at_ t 230, at_ t 231, at_ t 232, at_ t 233, at_ t 234, at_ t 235, at_ t 236, at_ t 237, at_ t 238, at_ t 239, at_ t 240, at_ t 241, at_ t 242, at_ t 243, at_ t 244, at_ t 245, at_ t 246, at_ t 247, at_ t 248] := (eta_ t h).trans (by kernel_rfl)

@[reducible] noncomputable def otherF : Func := Try.f77
@[reducible] noncomputable def othQ (W : World) (res : Bool) : Exit → Act → World → Prop := bodyPost Try.prog otherF fun e w' => e = .returned (.bool res) ∧ Below W.heap.size W w'
def nx (W : World) (res : Bool) (p : List Nat) (b : Nat) (cells : Array Value) (l : List (Nat × Value)) : Prop :=
  ∀ (a : Act) (w : World), Fr 249 a l → Blk w b 30 cells → Below W.heap.size W w → (part p (codeOf otherF)).wp Try.prog (othQ W res) a w

set_option maxRecDepth 100000 in
set_option maxHeartbeats 4000000 in
theorem oth_last10 (W w : World) (a : Act) (res : Bool) (b : Nat) {kind term index prev commit : Int} {good : Bool} {eA : Option Addr} {en ec : Nat} {data : ByteArray} {hA : Option Addr} {hn hc : Nat} {epoch site atN atE whN whE : Int} {oA : Option Addr} {on oc : Nat} {pA : Option Addr} {pn pc : Nat} (p x7 : Bool) (x3 x4 : Int) (holes : List Int) {S : Nat → Prop} (hk : kind = 10)
    (hfr : Fr 249 a [(1, .pointer (some ⟨b, 0, none⟩)), (3, .int .i64 x3), (4, .int .i64 x4), (6, .bool p), (7, .bool x7)]) (h1 : Blk w b 30 (mailC kind term index prev commit good eA en ec data hA hn hc epoch site atN atE whN whE oA on oc pA pn pc)) (hh : IntIs w S oA on oc holes) (hb : Below W.heap.size W w)
    (hres : res = (p && (decide (site = 0) && (decide (0 < epoch) && riseB whN 0 holes)))) :
    (part [1, 1, 1, 1, 1, 1, 1, 1] (codeOf otherF)).wp Try.prog (othQ W res) a w := by
  subst hk
  have c0 := h1.cell 0
  have c9 := h1.cell 9
  have c10 := h1.cell 10
  have c13 := h1.cell 13
  have c15 := h1.cell 15
  simp at c0 c9 c10 c13 c15
  have HR := Lib.hid hh
  have HB := Lib.hid hb
  have HS := Lib.hid hres
  have hz : on ≤ maxLen := Nat.le_trans hh.2.1 hh.2.2
  have HZ := Lib.hid hz
  clear h1 hh hb hres hz
  obtain ⟨t, df⟩ := a
  obtain ⟨hd, hs, h1, h3, h4, h6, h7, -⟩ := hfr
  simp only at hd hs h1 h3 h4 h6 h7
  subst hd
  rw [eta249 t hs, h1, h3, h4, h6, h7]
  clear hs h1 h3 h4 h6 h7
  cases p with
  | false =>
    conv => arg 2; whnf
    go_wp2_with fail
    go_ret
    exact ⟨ret_bool' (by rw [HS.out]; rfl), HB.out⟩
  | true =>
    by_cases hs : site = 0
    · have ds : (site == 0) = true := by simpa using hs
      have D1 : Hid (decide (site = 0) = true) := Lib.hid (decide_eq_true hs)
      clear hs
      by_cases he : 0 < epoch
      · have D2 : Hid (decide (0 < epoch) = true) := Lib.hid (decide_eq_true he)
        have de : decide (0 < epoch) = true := decide_eq_true he
        clear he
        obtain ⟨r, hr⟩ : ∃ r, r = riseB whN 0 holes := ⟨_, rfl⟩
        have hri := rise_any whN w.heap.size oA on oc holes w HR.out.1.reads HZ.out
        rw [← hr] at hri
        have HRI := Lib.hid hri
        have hres := HS.out
        rw [D1.out, D2.out, ← hr] at hres
        have HS2 := Lib.hid hres
        clear hr hri hres
        conv => arg 2; whnf
        go_wp2_with fail
        refine HRI.out.mono ?_
        rintro e w2 ⟨rfl, rfl⟩
        go_wp2_with fail
        go_ret
        exact ⟨ret_bool' (by rw [HS2.out]; simp), HB.out⟩
      · have D2 : Hid (decide (0 < epoch) = false) := Lib.hid (decide_eq_false he)
        have de : decide (0 < epoch) = false := decide_eq_false he
        clear he
        conv => arg 2; whnf
        go_wp2_with fail
        go_ret
        exact ⟨ret_bool' (by rw [HS.out, D2.out]; simp), HB.out⟩
    · have ds : (site == 0) = false := by simpa using hs
      have D1 : Hid (decide (site = 0) = false) := Lib.hid (decide_eq_false hs)
      clear hs
      conv => arg 2; whnf
      go_wp2_with fail
      go_ret
      exact ⟨ret_bool' (by rw [HS.out, D1.out]; simp), HB.out⟩

/-- what is asked of site, epoch, places and flag -/
def chk8 (kind : Int) (good : Bool) (epoch site atN atE whN whE : Int) : Bool :=
  (decide (0 ≤ site) && decide (site ≤ 1)) && ((decide (0 ≤ epoch) && decide (epoch ≤ 16)) && (placeB atN atE && (placeB whN whE && !(good && kind != 10))))
set_option maxRecDepth 100000 in
set_option maxHeartbeats 4000000 in
theorem oth8 (W w : World) (a : Act) (res : Bool) (b : Nat) {kind term index prev commit : Int} {good : Bool} {eA : Option Addr} {en ec : Nat} {data : ByteArray} {hA : Option Addr} {hn hc : Nat} {epoch site atN atE whN whE : Int} {oA : Option Addr} {on oc : Nat} {pA : Option Addr} {pn pc : Nat} (p x7 : Bool) (x3 x4 : Int)
    (hfr : Fr 249 a [(1, .pointer (some ⟨b, 0, none⟩)), (3, .int .i64 x3), (4, .int .i64 x4), (6, .bool p), (7, .bool x7)]) (h1 : Blk w b 30 (mailC kind term index prev commit good eA en ec data hA hn hc epoch site atN atE whN whE oA on oc pA pn pc)) (hb : Below W.heap.size W w)
    (hno : chk8 kind good epoch site atN atE whN whE = false → res = false) (hnx : chk8 kind good epoch site atN atE whN whE = true → nx W res [1, 1, 1, 1, 1, 1, 1, 1] b (mailC kind term index prev commit good eA en ec data hA hn hc epoch site atN atE whN whE oA on oc pA pn pc) [(1, .pointer (some ⟨b, 0, none⟩)), (3, .int .i64 x3), (4, .int .i64 x4), (6, .bool p), (7, .bool x7)]) :
    (part [1, 1, 1, 1, 1, 1, 1] (codeOf otherF)).wp Try.prog (othQ W res) a w := by
  have c0 := h1.cell 0
  have c5 := h1.cell 5
  have c9 := h1.cell 9
  have c10 := h1.cell 10
  have c11 := h1.cell 11
  have c12 := h1.cell 12
  have c13 := h1.cell 13
  have c14 := h1.cell 14
  simp at c0 c5 c9 c10 c11 c12 c13 c14
  have hblt := h1.lt
  have H1 := Lib.hid h1
  have HB := Lib.hid hb
  have HNO := Lib.hid hno
  have HNX := Lib.hid hnx
  clear h1 hb hno hnx
  obtain ⟨b1, h1⟩ : ∃ b, b = (decide (0 ≤ site) && decide (site ≤ 1)) := ⟨_, rfl⟩
  obtain ⟨b2, h2⟩ : ∃ b, b = (decide (0 ≤ epoch) && decide (epoch ≤ 16)) := ⟨_, rfl⟩
  obtain ⟨b3, h3⟩ : ∃ b, b = placeB atN atE := ⟨_, rfl⟩
  obtain ⟨b4, h4⟩ : ∃ b, b = placeB whN whE := ⟨_, rfl⟩
  have hchk : chk8 kind good epoch site atN atE whN whE = (b1 && (b2 && (b3 && (b4 && !(good && kind != 10))))) := by rw [h1, h2, h3, h4]; rfl
  have HC := Lib.hid hchk
  have B1 := Lib.hid h1
  have B2 := Lib.hid h2
  have B3 := Lib.hid h3
  have B4 := Lib.hid h4
  clear h1 h2 h3 h4 hchk
  obtain ⟨t, df⟩ := a
  obtain ⟨hd, hs, h1, h3, h4, h6, h7, -⟩ := hfr
  simp only at hd hs h1 h3 h4 h6 h7
  subst hd
  rw [eta249 t hs, h1, h3, h4, h6, h7]
  clear hs h1 h3 h4 h6 h7
  refine wp_part (x := part [1, 1, 1, 1, 1, 1, 1, 0] (codeOf otherF)) (y := part [1, 1, 1, 1, 1, 1, 1, 1] (codeOf otherF)) (by kernel_rfl) ?_
  intro K hK
  conv => arg 2; whnf
  go_wp2_with fail
  refine (within_new 0 1 site _ _ _ (by simp)).mono ?_
  rintro e w1 ⟨rfl, rfl⟩
  rw [← B1.out]
  have hz1 : Below w.heap.size w (w.alloc (.cells #[.int .i64 site] 3)) := (Below.refl _ _).alloc (Nat.le_refl _) _
  have HZ1 := Lib.hid hz1
  clear hz1
  cases b1 with
  | false =>
    go_wp2_with fail
    go_ret
    exact ⟨ret_bool' (HNO.out (by rw [HC.out]; rfl)).symm, HB.out.trans (HZ1.out.mono HB.out.size)⟩
  | true =>
    go_wp2_with fail
    refine (within_new 0 16 epoch _ _ _ (by first | rfl | simp)).mono ?_
    rintro e w2 ⟨rfl, rfl⟩
    rw [← B2.out]
    have hz2 : Below w.heap.size w ((w.alloc (.cells #[.int .i64 site] 3)).alloc (.cells #[.int .i64 epoch] 3)) := HZ1.out.alloc HZ1.out.size _
    have HZ2 := Lib.hid hz2
    clear hz2
    cases b2 with
    | false =>
      go_wp2_with fail
      go_ret
      exact ⟨ret_bool' (HNO.out (by rw [HC.out]; rfl)).symm, HB.out.trans (HZ2.out.mono HB.out.size)⟩
    | true =>
      go_wp2_with fail
      refine (place_any atN atE _).mono ?_
      rintro e w3 ⟨rfl, hb3⟩
      rw [← B3.out]
      have hz3 := HZ2.out.trans (hb3.mono HZ2.out.size)
      have hk3 := H1.out.below hz3 H1.out.lt
      have c0 := hk3.cell 0
      have c5 := hk3.cell 5
      have c13 := hk3.cell 13
      have c14 := hk3.cell 14
      simp at c0 c5 c13 c14
      have HZ3 := Lib.hid hz3
      clear hb3 hz3 hk3
      cases b3 with
      | false =>
        go_wp2_with fail
        go_ret
        exact ⟨ret_bool' (HNO.out (by rw [HC.out]; rfl)).symm, HB.out.trans (HZ3.out.mono HB.out.size)⟩
      | true =>
        go_wp2_with fail
        refine (place_any whN whE _).mono ?_
        rintro e w4 ⟨rfl, hb4⟩
        rw [← B4.out]
        have hz4 := HZ3.out.trans (hb4.mono HZ3.out.size)
        have hk4 := H1.out.below hz4 H1.out.lt
        have c0 := hk4.cell 0
        have c5 := hk4.cell 5
        simp at c0 c5
        have HZ4 := Lib.hid hz4
        have HK4 := Lib.hid hk4
        clear hb4 hz4 hk4
        cases b4 with
        | false =>
          go_wp2_with fail
          go_ret
          exact ⟨ret_bool' (HNO.out (by rw [HC.out]; rfl)).symm, HB.out.trans (HZ4.out.mono HB.out.size)⟩
        | true =>
          cases good with
          | false =>
            go_wp2_with fail
            exact HNX.out (by rw [HC.out]; rfl) _ _ ⟨rfl, rfl, rfl, rfl, rfl, rfl, rfl, trivial⟩ HK4.out (HB.out.trans (HZ4.out.mono HB.out.size))
          | true =>
            by_cases hk : kind = 10
            · subst hk
              go_wp2_with fail
              exact HNX.out (by rw [HC.out]; rfl) _ _ ⟨rfl, rfl, rfl, rfl, rfl, rfl, rfl, trivial⟩ HK4.out (HB.out.trans (HZ4.out.mono HB.out.size))
            · have d : (kind != 10) = true := by simpa using hk
              clear hk
              go_wp2_with fail
              go_ret
              exact ⟨ret_bool' (HNO.out (by rw [HC.out, d]; rfl)).symm, HB.out.trans (HZ4.out.mono HB.out.size)⟩
set_option maxRecDepth 100000 in
set_option maxHeartbeats 4000000 in
theorem oth7 (W w : World) (a : Act) (res : Bool) (b : Nat) {kind term index prev commit : Int} {good : Bool} {eA : Option Addr} {en ec : Nat} {data : ByteArray} {hA : Option Addr} {hn hc : Nat} {epoch site atN atE whN whE : Int} {oA : Option Addr} {on oc : Nat} {pA : Option Addr} {pn pc : Nat} (p x7 : Bool) (x3 x4 : Int)
    (hfr : Fr 249 a [(1, .pointer (some ⟨b, 0, none⟩)), (3, .int .i64 x3), (4, .int .i64 x4), (6, .bool p), (7, .bool x7)]) (h1 : Blk w b 30 (mailC kind term index prev commit good eA en ec data hA hn hc epoch site atN atE whN whE oA on oc pA pn pc)) (hb : Below W.heap.size W w) (hnx : nx W res [1, 1, 1, 1, 1, 1, 1] b (mailC kind term index prev commit good eA en ec data hA hn hc epoch site atN atE whN whE oA on oc pA pn pc) [(1, .pointer (some ⟨b, 0, none⟩)), (3, .int .i64 x3), (4, .int .i64 x4), (6, .bool p), (7, .bool x7)]) :
    (part [1, 1, 1, 1, 1, 1] (codeOf otherF)).wp Try.prog (othQ W res) a w := by
  have c11 := h1.cell 11
  have c12 := h1.cell 12
  have c13 := h1.cell 13
  have c14 := h1.cell 14
  simp at c11 c12 c13 c14
  have H1 := Lib.hid h1
  have HB := Lib.hid hb
  have HNX := Lib.hid hnx
  clear h1 hb hnx
  obtain ⟨y1, hy1⟩ : ∃ x, (atN == 0) = x := ⟨_, rfl⟩
  obtain ⟨y2, hy2⟩ : ∃ x, (atE == 0) = x := ⟨_, rfl⟩
  obtain ⟨y3, hy3⟩ : ∃ x, (whN == 0) = x := ⟨_, rfl⟩
  obtain ⟨y4, hy4⟩ : ∃ x, (whE == 0) = x := ⟨_, rfl⟩
  obtain ⟨t, df⟩ := a
  obtain ⟨hd, hs, h1, h3, h4, h6, h7, -⟩ := hfr
  simp only at hd hs h1 h3 h4 h6 h7
  subst hd
  rw [eta249 t hs, h1, h3, h4, h6, h7]
  clear hs h1 h3 h4 h6 h7
  refine wp_part (x := part [1, 1, 1, 1, 1, 1, 0] (codeOf otherF)) (y := part [1, 1, 1, 1, 1, 1, 1] (codeOf otherF)) (by kernel_rfl) ?_
  intro K hK
  conv => arg 2; whnf
  cases y1
  · clear hy2 hy3 hy4
    go_wp2_with fail
    exact HNX.out _ _ ⟨rfl, rfl, rfl, rfl, rfl, rfl, rfl, trivial⟩ H1.out HB.out
  · cases y2
    · clear hy3 hy4
      go_wp2_with fail
      exact HNX.out _ _ ⟨rfl, rfl, rfl, rfl, rfl, rfl, rfl, trivial⟩ H1.out HB.out
    · cases y3
      · clear hy4
        go_wp2_with fail
        exact HNX.out _ _ ⟨rfl, rfl, rfl, rfl, rfl, rfl, rfl, trivial⟩ H1.out HB.out
      · cases y4
        · go_wp2_with fail
          exact HNX.out _ _ ⟨rfl, rfl, rfl, rfl, rfl, rfl, rfl, trivial⟩ H1.out HB.out
        · go_wp2_with fail
          exact HNX.out _ _ ⟨rfl, rfl, rfl, rfl, rfl, rfl, rfl, trivial⟩ H1.out HB.out

set_option maxRecDepth 100000 in
set_option maxHeartbeats 4000000 in
theorem oth6 (W w : World) (a : Act) (res : Bool) (b : Nat) {kind term index prev commit : Int} {good : Bool} {eA : Option Addr} {en ec : Nat} {data : ByteArray} {hA : Option Addr} {hn hc : Nat} {epoch site atN atE whN whE : Int} {oA : Option Addr} {on oc : Nat} {pA : Option Addr} {pn pc : Nat} (p : Bool) (x3 x4 : Int)
    (hfr : Fr 249 a [(1, .pointer (some ⟨b, 0, none⟩)), (3, .int .i64 x3), (4, .int .i64 x4), (6, .bool p)]) (h1 : Blk w b 30 (mailC kind term index prev commit good eA en ec data hA hn hc epoch site atN atE whN whE oA on oc pA pn pc)) (hb : Below W.heap.size W w) (hnx : nx W res [1, 1, 1, 1, 1, 1] b (mailC kind term index prev commit good eA en ec data hA hn hc epoch site atN atE whN whE oA on oc pA pn pc) [(1, .pointer (some ⟨b, 0, none⟩)), (3, .int .i64 x3), (4, .int .i64 x4), (6, .bool p), (7, .bool (decide (on = 0)))]) :
    (part [1, 1, 1, 1, 1] (codeOf otherF)).wp Try.prog (othQ W res) a w := by
  have c15 := h1.cell 15
  simp at c15
  have H1 := Lib.hid h1
  have HB := Lib.hid hb
  have HNX := Lib.hid hnx
  clear h1 hb hnx
  obtain ⟨t, df⟩ := a
  obtain ⟨hd, hs, h1, h3, h4, h6, -⟩ := hfr
  simp only at hd hs h1 h3 h4 h6
  subst hd
  rw [eta249 t hs, h1, h3, h4, h6]
  clear hs h1 h3 h4 h6
  refine wp_part (x := part [1, 1, 1, 1, 1, 0] (codeOf otherF)) (y := part [1, 1, 1, 1, 1, 1] (codeOf otherF)) (by kernel_rfl) ?_
  intro K hK
  conv => arg 2; whnf
  by_cases ho : on = 0
  · have d : ((on : Int) == 0) = true := by simpa using ho
    have HD : Hid (decide (on = 0) = true) := Lib.hid (decide_eq_true ho)
    clear ho
    have hn2 := HNX.out
    rw [HD.out] at hn2
    have HN2 := Lib.hid hn2
    clear hn2
    go_wp2_with fail
    exact HN2.out _ _ ⟨rfl, rfl, rfl, rfl, rfl, rfl, rfl, trivial⟩ H1.out HB.out
  · have d : ((on : Int) == 0) = false := by simpa using ho
    have HD : Hid (decide (on = 0) = false) := Lib.hid (decide_eq_false ho)
    clear ho
    have hn2 := HNX.out
    rw [HD.out] at hn2
    have HN2 := Lib.hid hn2
    clear hn2
    go_wp2_with fail
    exact HN2.out _ _ ⟨rfl, rfl, rfl, rfl, rfl, rfl, rfl, trivial⟩ H1.out HB.out

set_option maxRecDepth 100000 in
set_option maxHeartbeats 4000000 in
theorem oth5 (W w : World) (a : Act) (res : Bool) (b : Nat) {kind term index prev commit : Int} {good : Bool} {eA : Option Addr} {en ec : Nat} {data : ByteArray} {hA : Option Addr} {hn hc : Nat} {epoch site atN atE whN whE : Int} {oA : Option Addr} {on oc : Nat} {pA : Option Addr} {pn pc : Nat} (z1 : hn ≤ 140737488351232) (z2 : data.size ≤ 140737488351232) (z3 : pn ≤ 140737488351232)
    (hfr : Fr 249 a [(1, .pointer (some ⟨b, 0, none⟩)), (3, .int .i64 (hn : Nat)), (4, .int .i64 (data.size : Nat))]) (h1 : Blk w b 30 (mailC kind term index prev commit good eA en ec data hA hn hc epoch site atN atE whN whE oA on oc pA pn pc)) (hb : Below W.heap.size W w) (hnx : nx W res [1, 1, 1, 1, 1] b (mailC kind term index prev commit good eA en ec data hA hn hc epoch site atN atE whN whE oA on oc pA pn pc) [(1, .pointer (some ⟨b, 0, none⟩)), (3, .int .i64 (hn : Nat)), (4, .int .i64 (data.size : Nat)), (6, .bool (decide (hn + data.size + pn = 0)))]) :
    (part [1, 1, 1, 1] (codeOf otherF)).wp Try.prog (othQ W res) a w := by
  have c16 := h1.cell 16
  simp at c16
  have H1 := Lib.hid h1
  have HB := Lib.hid hb
  have HNX := Lib.hid hnx
  clear h1 hb hnx
  obtain ⟨t, df⟩ := a
  obtain ⟨hd, hs, h1, h3, h4, -⟩ := hfr
  simp only at hd hs h1 h3 h4
  subst hd
  rw [eta249 t hs, h1, h3, h4]
  clear hs h1 h3 h4
  refine wp_part (x := part [1, 1, 1, 1, 0] (codeOf otherF)) (y := part [1, 1, 1, 1, 1] (codeOf otherF)) (by kernel_rfl) ?_
  intro K hK
  conv => arg 2; whnf
  by_cases ho : hn + data.size + pn = 0
  · have d : ((hn : Int) + (data.size : Int) + (pn : Int) == 0) = true := beq_iff_eq.2 (by omega)
    have HD : Hid (decide (hn + data.size + pn = 0) = true) := Lib.hid (decide_eq_true ho)
    clear ho
    have hn2 := HNX.out
    rw [HD.out] at hn2
    have HN2 := Lib.hid hn2
    clear hn2
    go_wp2_with fail
    exact HN2.out _ _ ⟨rfl, rfl, rfl, rfl, rfl, rfl, trivial⟩ H1.out HB.out
  · have d : ((hn : Int) + (data.size : Int) + (pn : Int) == 0) = false := beq_eq_false_iff_ne.2 (by omega)
    have HD : Hid (decide (hn + data.size + pn = 0) = false) := Lib.hid (decide_eq_false ho)
    clear ho
    have hn2 := HNX.out
    rw [HD.out] at hn2
    have HN2 := Lib.hid hn2
    clear hn2
    go_wp2_with fail
    exact HN2.out _ _ ⟨rfl, rfl, rfl, rfl, rfl, rfl, trivial⟩ H1.out HB.out

set_option maxRecDepth 100000 in
set_option maxHeartbeats 4000000 in
theorem oth4 (W w : World) (a : Act) (res : Bool) (b : Nat) {kind term index prev commit : Int} {good : Bool} {eA : Option Addr} {en ec : Nat} {data : ByteArray} {hA : Option Addr} {hn hc : Nat} {epoch site atN atE whN whE : Int} {oA : Option Addr} {on oc : Nat} {pA : Option Addr} {pn pc : Nat}
    (hfr : Fr 249 a [(1, .pointer (some ⟨b, 0, none⟩)), (3, .int .i64 (hn : Nat)), (4, .int .i64 (data.size : Nat))]) (h1 : Blk w b 30 (mailC kind term index prev commit good eA en ec data hA hn hc epoch site atN atE whN whE oA on oc pA pn pc)) (hb : Below W.heap.size W w) (hnx : nx W res [1, 1, 1, 1] b (mailC kind term index prev commit good eA en ec data hA hn hc epoch site atN atE whN whE oA on oc pA pn pc) [(1, .pointer (some ⟨b, 0, none⟩)), (3, .int .i64 (hn : Nat)), (4, .int .i64 (data.size : Nat))]) :
    (part [1, 1, 1] (codeOf otherF)).wp Try.prog (othQ W res) a w := by
  have c9 := h1.cell 9
  have c10 := h1.cell 10
  simp at c9 c10
  have H1 := Lib.hid h1
  have HB := Lib.hid hb
  have HNX := Lib.hid hnx
  clear h1 hb hnx
  obtain ⟨y1, hy1⟩ : ∃ x, (epoch == 0) = x := ⟨_, rfl⟩
  obtain ⟨y2, hy2⟩ : ∃ x, (site == 0) = x := ⟨_, rfl⟩
  obtain ⟨t, df⟩ := a
  obtain ⟨hd, hs, h1, h3, h4, -⟩ := hfr
  simp only at hd hs h1 h3 h4
  subst hd
  rw [eta249 t hs, h1, h3, h4]
  clear hs h1 h3 h4
  refine wp_part (x := part [1, 1, 1, 0] (codeOf otherF)) (y := part [1, 1, 1, 1] (codeOf otherF)) (by kernel_rfl) ?_
  intro K hK
  conv => arg 2; whnf
  cases y1
  · clear hy2
    go_wp2_with fail
    exact HNX.out _ _ ⟨rfl, rfl, rfl, rfl, rfl, trivial⟩ H1.out HB.out
  · cases y2
    · go_wp2_with fail
      exact HNX.out _ _ ⟨rfl, rfl, rfl, rfl, rfl, trivial⟩ H1.out HB.out
    · go_wp2_with fail
      exact HNX.out _ _ ⟨rfl, rfl, rfl, rfl, rfl, trivial⟩ H1.out HB.out

set_option maxRecDepth 100000 in
set_option maxHeartbeats 4000000 in
theorem oth3 (W w : World) (a : Act) (res : Bool) (b : Nat) {kind term index prev commit : Int} {good : Bool} {eA : Option Addr} {en ec : Nat} {data : ByteArray} {hA : Option Addr} {hn hc : Nat} {epoch site atN atE whN whE : Int} {oA : Option Addr} {on oc : Nat} {pA : Option Addr} {pn pc : Nat}
    (hfr : Fr 249 a [(1, .pointer (some ⟨b, 0, none⟩))]) (h1 : Blk w b 30 (mailC kind term index prev commit good eA en ec data hA hn hc epoch site atN atE whN whE oA on oc pA pn pc)) (hb : Below W.heap.size W w) (hnx : nx W res [1, 1, 1] b (mailC kind term index prev commit good eA en ec data hA hn hc epoch site atN atE whN whE oA on oc pA pn pc) [(1, .pointer (some ⟨b, 0, none⟩)), (3, .int .i64 (hn : Nat)), (4, .int .i64 (data.size : Nat))]) :
    (part [1, 1] (codeOf otherF)).wp Try.prog (othQ W res) a w := by
  have c7 := h1.cell 7
  have c8 := h1.cell 8
  simp at c7 c8
  have H1 := Lib.hid h1
  have HB := Lib.hid hb
  have HNX := Lib.hid hnx
  clear h1 hb hnx
  obtain ⟨t, df⟩ := a
  obtain ⟨hd, hs, h1, -⟩ := hfr
  simp only at hd hs h1
  subst hd
  rw [eta249 t hs, h1]
  clear hs h1
  refine wp_part (x := part [1, 1, 0] (codeOf otherF)) (y := part [1, 1, 1] (codeOf otherF)) (by kernel_rfl) ?_
  intro K hK
  conv => arg 2; whnf
  go_wp2_with fail
  go_quiet (fail)
  go_wp2_with fail
  exact HNX.out _ _ ⟨rfl, rfl, rfl, rfl, rfl, trivial⟩ (H1.out.drewN _) (below_drewN HB.out _)

/-- what no mail of these kinds has -/
def pre1 (term index prev commit : Int) (en : Nat) : Bool := decide (term = 0) && (decide (index = 0) && (decide (prev = 0) && (decide (commit = 0) && decide (en = 0))))
set_option maxRecDepth 100000 in
set_option maxHeartbeats 4000000 in
theorem oth1 (W w : World) (a : Act) (res : Bool) (b : Nat) {kind term index prev commit : Int} {good : Bool} {eA : Option Addr} {en ec : Nat} {data : ByteArray} {hA : Option Addr} {hn hc : Nat} {epoch site atN atE whN whE : Int} {oA : Option Addr} {on oc : Nat} {pA : Option Addr} {pn pc : Nat}
    (hfr : Fr 249 a [(1, .pointer (some ⟨b, 0, none⟩))]) (h1 : Blk w b 30 (mailC kind term index prev commit good eA en ec data hA hn hc epoch site atN atE whN whE oA on oc pA pn pc)) (hb : Below W.heap.size W w)
    (hno : pre1 term index prev commit en = false → res = false) (hnx : pre1 term index prev commit en = true → nx W res [1, 1] b (mailC kind term index prev commit good eA en ec data hA hn hc epoch site atN atE whN whE oA on oc pA pn pc) [(1, .pointer (some ⟨b, 0, none⟩))]) :
    (part [1] (codeOf otherF)).wp Try.prog (othQ W res) a w := by
  have c1 := h1.cell 1
  have c2 := h1.cell 2
  have c3 := h1.cell 3
  have c4 := h1.cell 4
  have c6 := h1.cell 6
  simp at c1 c2 c3 c4 c6
  have H1 := Lib.hid h1
  have HB := Lib.hid hb
  have HNX := Lib.hid hnx
  have HNO := Lib.hid hno
  clear h1 hb hnx hno
  obtain ⟨t, df⟩ := a
  obtain ⟨hd, hs, h1, -⟩ := hfr
  simp only at hd hs h1
  subst hd
  rw [eta249 t hs, h1]
  clear hs h1
  refine wp_part (x := part [1, 0] (codeOf otherF)) (y := part [1, 1] (codeOf otherF)) (by kernel_rfl) ?_
  intro K hK
  conv => arg 2; whnf
  by_cases h0 : term = 0
  · have t0 : (term != 0) = false := by simp [h0]
    have H0 := Lib.hid h0
    clear h0
    by_cases h1 : index = 0
    · have t1 : (index != 0) = false := by simp [h1]
      have G1 := Lib.hid h1
      clear h1
      by_cases h2 : prev = 0
      · have t2 : (prev != 0) = false := by simp [h2]
        have H2 := Lib.hid h2
        clear h2
        by_cases h3 : commit = 0
        · have t3 : (commit != 0) = false := by simp [h3]
          have H3 := Lib.hid h3
          clear h3
          by_cases h4 : en = 0
          · subst h4
            go_wp2_with fail
            exact HNX.out (by simp [pre1, H0.out, G1.out, H2.out, H3.out]) _ _ ⟨rfl, rfl, rfl, trivial⟩ H1.out HB.out
          · have h5 : 0 < en := by omega
            have H4 := Lib.hid h4
            clear h4
            go_wp2_with fail
            go_ret
            exact ⟨ret_bool' (HNO.out (by have := H4.out; simp [pre1, this])).symm, HB.out⟩
        · have t3 : (commit != 0) = true := by simp [h3]
          have H3 := Lib.hid h3
          clear h3
          go_wp2_with fail
          go_ret
          exact ⟨ret_bool' (HNO.out (by simp [pre1, H3.out])).symm, HB.out⟩
      · have t2 : (prev != 0) = true := by simp [h2]
        have H2 := Lib.hid h2
        clear h2
        go_wp2_with fail
        go_ret
        exact ⟨ret_bool' (HNO.out (by simp [pre1, H2.out])).symm, HB.out⟩
    · have t1 : (index != 0) = true := by simp [h1]
      have G1 := Lib.hid h1
      clear h1
      go_wp2_with fail
      go_ret
      exact ⟨ret_bool' (HNO.out (by simp [pre1, G1.out])).symm, HB.out⟩
  · have t0 : (term != 0) = true := by simp [h0]
    have H0 := Lib.hid h0
    clear h0
    go_wp2_with fail
    go_ret
    exact ⟨ret_bool' (HNO.out (by simp [pre1, H0.out])).symm, HB.out⟩
end Go.Proofs.Ytaipgdhdfpemcaa
