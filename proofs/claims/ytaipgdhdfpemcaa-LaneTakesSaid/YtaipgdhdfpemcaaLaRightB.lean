/-
  THE WALKS OF THE LANE: the reference's word about a mail of the kind 10, part by part.
-/
import Derived.Test.YtaipgdhdfpemcaaLaRefE
import Derived.Test.YtaipgdhdfpemcaaLaSet
import Derived.Test.YtaipgdhdfpemcaaDraw7
namespace Go.Proofs.Ytaipgdhdfpemcaa
open Go.RowKit
open Go.Maps (Keyed int_keyed keyOf_int_mk)

theorem eta391 (t : Array Value) (h : t.size = 391) : t = #[at_ t 0, at_ t 1, at_ t 2, at_ t 3, at_ t 4, at_ t 5, at_ t 6, at_ t 7, at_ t 8, at_ t 9, at_ t 10, at_ t 11, at_ t 12, at_ t 13, at_ t 14, at_ t 15, at_ t 16, at_ t 17, at_ t 18, at_ t 19, at_ t 20, at_ t 21, at_ t 22, at_ t 23, at_ t 24, at_ t 25, at_ t 26, at_ t 27, at_ t 28, at_ t 29, at_ t 30, at_ t 31, at_ t 32, at_ t 33, at_ t 34, at_ t 35, at_ t 36, at_ t 37, at_ t 38, at_ t 39, at_ t 40, at_ t 41, at_ t 42, at_ t 43, at_ t 44, at_ t 45, at_ t 46, at_ t 47, at_ t 48, at_ t 49, at_ t 50, at_ t 51, at_ t 52, at_ t 53, at_ t 54, at_ t 55, at_ t 56, at_ t 57, at_ t 58, at_ t 59, at_ t 60, at_ t 61, at_ t 62, at_ t 63, at_ t 64, at_ t 65, at_ t 66, at_ t 67, at_ t 68, at_ t 69, at_ t 70, at_ t 71, at_ t 72, at_ t 73, at_ t 74, at_ t 75, at_ t 76, at_ t 77, at_ t 78, at_ t 79, at_ t 80, at_ t 81, at_ t 82, at_ t 83, at_ t 84, at_ t 85, at_ t 86, at_ t 87, at_ t 88, at_ t 89, at_ t 90, at_ t 91, at_ t 92, at_ t 93, at_ t 94, at_ t 95, at_ t 96, at_ t 97, at_ t 98, at_ t 99, at_ t 100, at_ t 101, at_ t 102, at_ t 103, at_ t 104, at_ t 105, at_ t 106, at_ t 107, at_ t 108, at_ t 109, at_ t 110, at_ t 111, at_ t 112, at_ t 113, at_ t 114, at_ t 115, at_ t 116, at_ t 117, at_ t 118, at_ t 119, at_ t 120, at_ t 121, at_ t 122, at_ t 123, at_ t 124, at_ t 125, at_ t 126, at_ t 127, at_ t 128, at_ t 129, at_ t 130, at_ t 131, at_ t 132, at_ t 133, at_ t 134, at_ t 135, at_ t 136, at_ t 137, at_ t 138, at_ t 139, at_ t 140, at_ t 141, at_ t 142, at_ t 143, at_ t 144, at_ t 145, at_ t 146, at_ t 147, at_ t 148, at_ t 149, at_ t 150, at_ t 151, at_ t 152, at_ t 153, at_ t 154, at_ t 155, at_ t 156, at_ t 157, at_ t 158, at_ t 159, at_ t 160, at_ t 161, at_ t 162, at_ t 163, at_ t 164, at_ t 165, at_ t 166, at_ t 167, at_ t 168, at_ t 169, at_ t 170, at_ t 171, at_ t 172, at_ t 173, at_ t 174, at_ t 175, at_ t 176, at_ t 177, at_ t 178, at_ t 179, at_ t 180, at_ t 181, at_ t 182, at_ t 183, at_ t 184, at_ t 185, at_ t 186, at_ t 187, at_ t 188, at_ t 189, at_ t 190, at_ t 191, at_ t 192, at_ t 193, at_ t 194, at_ t 195, at_ t 196, at_ t 197, at_ t 198, at_ t 199, at_ t 200, at_ t 201, at_ t 202, at_ t 203, at_ t 204, at_ t 205, at_ t 206, at_ t 207, at_ t 208, at_ t 209, at_ t 210, at_ t 211, at_ t 212, at_ t 213, at_ t 214, at_ t 215, at_ t 216, at_ t 217, at_ t 218, at_ t 219, at_ t 220, at_ t 221, at_ t 222, at_ t 223, at_ t 224, at_ t 225, at_ t 226, at_ t 227, at_ t 228, at_ t 229, at_ t 230, at_ t 231, at_ t 232, at_ t 233, at_ t 234, at_ t 235, at_ t 236, at_ t 237, at_ t 238, at_ t 239, at_ t 240, at_ t 241, at_ t 242, at_ t 243, at_ t 244, at_ t 245, at_ t 246, at_ t 247, at_ t 248, at_ t 249, at_ t 250, at_ t 251, at_ t 252, at_ t 253, at_ t 254, at_ t 255, at_ t 256, at_ t 257, at_ t 258, at_ t 259, at_ t 260, at_ t 261, at_ t 262, at_ t 263, at_ t 264, at_ t 265, at_ t 266, at_ t 267, at_ t 268, at_ t 269, at_ t 270, at_ t 271, at_ t 272, at_ t 273, at_ t 274, at_ t 275, at_ t 276, at_ t 277, at_ t 278, at_ t 279, at_ t 280, at_ t 281, at_ t 282, at_ t 283, at_ t 284, at_ t 285, at_ t 286, at_ t 287, at_ t 288, at_ t 289, at_ t 290, at_ t 291, at_ t 292, at_ t 293, at_ t 294, at_ t 295, at_ t 296, at_ t 297, at_ t 298, at_ t 299, at_ t 300, at_ t 301, at_ t 302, at_ t 303, at_ t 304, at_ t 305, at_ t 306, at_ t 307, at_ t 308, at_ t 309, at_ t 310, at_ t 311, at_ t 312, at_ t 313, at_ t 314, at_ t 315, at_ t 316, at_ t 317, at_ t 318, at_ t 319, at_ t 320, at_ t 321, at_ t 322, at_ t 323, at_ t 324, at_ t 325, at_ t 326, at_ t 327, at_ t 328, at_ t 329, at_ t 330, at_ t 331, at_ t 332, at_ t 333, at_ t 334, at_ t 335, at_ t 336, at_ t 337, at_ t 338, at_ t 339, at_ t 340, at_ t 341, at_ t 342, at_ t 343, at_ t 344, at_ t 345, at_ t 346, at_ t 347, at_ t 348, at_ t 349, at_ t 350, at_ t 351, at_ t 352, at_ t 353, at_ t 354, at_ t 355, at_ t 356, at_ t 357, at_ t 358, at_ t 359, at_ t 360, at_ t 361, at_ t 362, at_ t 363, at_ t 364, at_ t 365, at_ t 366, at_ t 367, at_ t 368, at_ t 369, at_ t 370, at_ t 371, at_ t 372, at_ t 373, at_ t 374, at_ t 375, at_ t 376, at_ t 377, at_ t 378, at_ t 379, at_ t 380, at_ t 381, at_ t 382, at_ t 383, at_ t 384, at_ t 385, at_ t 386, at_ t 387, at_ t 388, at_ t 389, at_ t 390] := (eta_ t h).trans (by kernel_rfl)

@[reducible] noncomputable def rightF : Func := Try.f64
theorem u8Keyed : Keyed Try.prog 5 := int_keyed Try.underlying5
abbrev NamedD := DataW Unit
/-- the letters that are named, so many of them -/
def namedD : List Nat → NamedD
  | [] => .map []
  | c :: l => (namedD l).put (.int .u8 (c : Int)) (.lit (.bool true))
def NamedIs (w : World) (g : Nat) (l : List Nat) : Prop := w.ownsMap Try.prog 5 (plainElem (H := Unit) Try.prog 4) g l.length (namedD l)
theorem NamedIs.below {w w' : World} {g B : Nat} {l : List Nat} (h : NamedIs w g l) (hb : Below B w w') (hg : g < B) : NamedIs w' g l := by
  obtain ⟨es, clock, h1, h2⟩ := h
  exact ⟨es, clock, (hb.block g hg).trans h1, h2⟩
theorem NamedIs.lt {w : World} {g : Nat} {l : List Nat} (h : NamedIs w g l) : g < w.heap.size := World.ownsMap.lt h
set_option maxRecDepth 100000 in
theorem NamedIs.look {w : World} {g : Nat} {l : List Nat} (h : NamedIs w g l) (c : Nat) (b : Bool) (hc : (Lit.int .u8 (c : Int)).wf = true) (hat : (namedD l).atKey (.int .u8 (c : Int)) (.lit (.bool false)) = .lit (.bool b)) :
    (Instr.lookup 147 (.map (some g)) (.int .u8 (c : Int)) false).run Try.prog w = .ok (.bool b) w := by
  obtain ⟨v, ps, hrun, hv⟩ := World.ownsMap.lookup h u8Keyed Try.underlying147 (z := .bool false) (zeroBool w) (plainElem_bool Try.underlying4 false) (keyOf_int_mk Try.underlying5 hc)
  rw [hat] at hv
  obtain ⟨x, rfl, hx⟩ := plainElem_bool_inv Try.underlying4 hv
  injection hx with hx _
  injection hx with hx
  injection hx with hx
  rw [hrun, hx]
theorem NamedIs.put {w : World} {g : Nat} {l : List Nat} (h : NamedIs w g l) (hl : l.length < 100) (c : Nat) (hc : (Lit.int .u8 (c : Int)).wf = true) :
    ∃ w', (Instr.mapUpdate 147 (.map (some g)) (.int .u8 (c : Int)) (.bool true)).run Try.prog w = .ok () w' ∧ NamedIs w' g (c :: l) ∧ w.grownBy w' (some g) :=
  World.ownsMap.update h u8Keyed Try.underlying147 (by unfold maxLen; omega) (keyOf_int_mk Try.underlying5 hc) (plainElem_bool Try.underlying4 true)
theorem wpList_named {w : World} {ops : Array Oper} {rest : List Oper} {o : Oper} {a : Act} {Q : Exit → Act → World → Prop} {g : Nat} {l : List Nat} (hgd : o.guard = none) (m x v : Operand) (hop : o.op = Op.mapUpdate 147 m x v)
    (hn : NamedIs w g l) (hl : l.length < 100) (c : Nat) (hc : (Lit.int .u8 (c : Int)).wf = true) (hm : a.eval m = .map (some g)) (hx : a.eval x = .int .u8 (c : Int)) (hv : a.eval v = .bool true)
    (hK : ∀ w', NamedIs w' g (c :: l) → w.grownBy w' (some g) → wpList Try.prog ops Q rest (a.put o.dst undef) w') : wpList Try.prog ops Q (o :: rest) a w :=
  wpList_mapUpdate_own w hgd m x v 147 hop 5 4 u8Keyed Try.underlying147 _ g l.length (namedD l) hm hn (by unfold maxLen; omega) _ _ _ hx hv (keyOf_int_mk Try.underlying5 hc) _ [] (plainElem_bool Try.underlying4 true) hK
/-- what the letters say -/
theorem named_at : ∀ p ∈ [(116, false), (105, false), (112, false), (99, false), (103, true), (101, false), (100, false), (104, false), (69, true), (115, false), (97, true), (119, true), (79, false), (72, true)],
    (namedD [72, 119, 97, 103, 69]).atKey (.int .u8 ((p.1 : Nat) : Int)) (.lit (.bool false)) = .lit (.bool p.2) ∧ (Lit.int .u8 ((p.1 : Nat) : Int)).wf = true := by
  intro p hp
  simp only [List.mem_cons, List.not_mem_nil, or_false] at hp
  rcases hp with rfl | rfl | rfl | rfl | rfl | rfl | rfl | rfl | rfl | rfl | rfl | rfl | rfl | rfl <;> exact ⟨by kernel_rfl, by kernel_rfl⟩

set_option maxRecDepth 100000 in
set_option maxHeartbeats 4000000 in
theorem right28 (w : World) (Q : Exit → Act → World → Prop) (a : Act) (mb g : Nat)
    (hfr : Fr 391 a [(1, .pointer (some ⟨mb, 0, none⟩)), (3, .string ⟨#[69, 103, 97, 119, 72]⟩), (4, .map (some g))]) (h : NamedIs w g [])
    (hQ : ∀ a' w', Fr 391 a' [(1, .pointer (some ⟨mb, 0, none⟩)), (4, .map (some g))] → NamedIs w' g [72, 119, 97, 103, 69] → Below g w w' → Q .normal a' w') :
    (part [1, 1, 1, 1, 0] (codeOf rightF)).wp Try.prog Q a w := by
  have HQ := Lib.hid hQ
  have H0 := Lib.hid h
  clear hQ h
  obtain ⟨t, df⟩ := a
  obtain ⟨hd, hs, h1, h3, h4, -⟩ := hfr
  simp only at hd hs h1 h3 h4
  subst hd
  rw [eta391 t hs, h1, h3, h4]
  clear hs h1 h3 h4
  conv => arg 2; whnf
  go_wp2_with fail
  go_loopw [5] (fun i wr => (∃ k : Nat, k ≤ 5 ∧ i = .int .i64 k ∧ NamedIs wr g (([69, 103, 97, 119, 72].take k).reverse)) ∧ Below g w wr) (fun i _ => 5 - (intOf i).toNat)
  case atStart => exact ⟨⟨0, by omega, rfl, H0.out⟩, Below.refl _ _⟩
  case round =>
    obtain ⟨⟨k, hk, rfl, hn⟩, hb⟩ := hrel
    have HB := Lib.hid hb
    clear hb
    have HN := Lib.hid hn
    have hlt := hn.lt
    clear hn
    match k, hk with
    | 0, _ =>
      go_wp2_with (at_mapUpdate; refine wpList_named rfl _ _ _ rfl HN.out (by simp) 69 (by kernel_rfl) rfl rfl rfl ?_)
      intro w' h1 h3
      have H1 := Lib.hid h1
      have H2 := Lib.hid (HB.out.trans (⟨h3.os, h3.tape, h3.output, h3.size, fun b hb => h3.block b (by omega) (fun e => by injection e; omega)⟩ : Below g wr w'))
      clear h1 h3
      go_wp2_with fail
      go_roundw
      case rel => exact ⟨⟨1, by omega, rfl, H1.out⟩, H2.out⟩
      case measure => simp [intOf]
    | 1, _ =>
      go_wp2_with (at_mapUpdate; refine wpList_named rfl _ _ _ rfl HN.out (by simp) 103 (by kernel_rfl) rfl rfl rfl ?_)
      intro w' h1 h3
      have H1 := Lib.hid h1
      have H2 := Lib.hid (HB.out.trans (⟨h3.os, h3.tape, h3.output, h3.size, fun b hb => h3.block b (by omega) (fun e => by injection e; omega)⟩ : Below g wr w'))
      clear h1 h3
      go_wp2_with fail
      go_roundw
      case rel => exact ⟨⟨2, by omega, rfl, H1.out⟩, H2.out⟩
      case measure => simp [intOf]
    | 2, _ =>
      go_wp2_with (at_mapUpdate; refine wpList_named rfl _ _ _ rfl HN.out (by simp) 97 (by kernel_rfl) rfl rfl rfl ?_)
      intro w' h1 h3
      have H1 := Lib.hid h1
      have H2 := Lib.hid (HB.out.trans (⟨h3.os, h3.tape, h3.output, h3.size, fun b hb => h3.block b (by omega) (fun e => by injection e; omega)⟩ : Below g wr w'))
      clear h1 h3
      go_wp2_with fail
      go_roundw
      case rel => exact ⟨⟨3, by omega, rfl, H1.out⟩, H2.out⟩
      case measure => simp [intOf]
    | 3, _ =>
      go_wp2_with (at_mapUpdate; refine wpList_named rfl _ _ _ rfl HN.out (by simp) 119 (by kernel_rfl) rfl rfl rfl ?_)
      intro w' h1 h3
      have H1 := Lib.hid h1
      have H2 := Lib.hid (HB.out.trans (⟨h3.os, h3.tape, h3.output, h3.size, fun b hb => h3.block b (by omega) (fun e => by injection e; omega)⟩ : Below g wr w'))
      clear h1 h3
      go_wp2_with fail
      go_roundw
      case rel => exact ⟨⟨4, by omega, rfl, H1.out⟩, H2.out⟩
      case measure => simp [intOf]
    | 4, _ =>
      go_wp2_with (at_mapUpdate; refine wpList_named rfl _ _ _ rfl HN.out (by simp) 72 (by kernel_rfl) rfl rfl rfl ?_)
      intro w' h1 h3
      have H1 := Lib.hid h1
      have H2 := Lib.hid (HB.out.trans (⟨h3.os, h3.tape, h3.output, h3.size, fun b hb => h3.block b (by omega) (fun e => by injection e; omega)⟩ : Below g wr w'))
      clear h1 h3
      go_wp2_with fail
      go_roundw
      case rel => exact ⟨⟨5, by omega, rfl, H1.out⟩, H2.out⟩
      case measure => simp [intOf]
    | 5, _ =>
      go_wp2_with fail
      exact HQ.out _ _ ⟨rfl, rfl, rfl, rfl, trivial⟩ HN.out HB.out
    | k + 6, hk => exact absurd hk (by omega)
end Go.Proofs.Ytaipgdhdfpemcaa

namespace Go.Proofs.Ytaipgdhdfpemcaa
open Go.RowKit

theorem bne_empty_true {d : ByteArray} (h : ¬ d.size = 0) : (d != ⟨#[]⟩) = true := by
  cases d with
  | mk a =>
    cases hb : (ByteArray.mk a == ⟨#[]⟩) with
    | false => simp [bne, hb]
    | true =>
      exfalso
      have h2 : (a == #[]) = true := hb
      have h3 : a = #[] := by simpa using h2
      apply h
      show a.size = 0
      rw [h3]
      rfl
theorem bne_empty_false {d : ByteArray} (h : d.size = 0) : (d != ⟨#[]⟩) = false := by
  have e : d = ⟨#[]⟩ := by
    obtain ⟨a⟩ := d
    have : a = #[] := Array.eq_empty_of_size_eq_zero h
    rw [this]
  rw [e]
  decide
theorem empty_eq {d : ByteArray} : d.toList.isEmpty = !(d != ⟨#[]⟩) := by
  rw [ByteArray.toList_eq]
  by_cases h : d.size = 0
  · rw [bne_empty_false h]
    have e : d.data = #[] := Array.eq_empty_of_size_eq_zero h
    rw [e]
    rfl
  · rw [bne_empty_true h]
    cases hl : d.data.toList with
    | nil =>
      exfalso
      apply h
      show d.data.size = 0
      rw [← Array.length_toList, hl]
      rfl
    | cons _ _ => rfl
/-- what no mail of the kind 10 has -/
def c32 (term index prev commit : Int) (en : Nat) (data : ByteArray) (hn : Nat) (site : Int) (pn : Nat) : Bool :=
  decide (term = 0) && decide (index = 0) && decide (prev = 0) && decide (commit = 0) && decide (en = 0) && decide (data.size = 0) && decide (hn = 0) && decide (site = 0) && decide (pn = 0)
theorem c32_eq {term index prev commit : Int} {en : Nat} {data : ByteArray} {hn : Nat} {site : Int} {pn : Nat} : (((((((((term != 0) || (index != 0)) || (prev != 0)) || (commit != 0)) || (decide ((0 : Int) < (en : Nat)))) || (data != ⟨#[]⟩)) || (decide ((0 : Int) < (hn : Nat)))) || (site != 0)) || (decide ((0 : Int) < (pn : Nat)))) = !(c32 term index prev commit en data hn site pn) := by
  have hb : (data != ⟨#[]⟩) = !decide (data.size = 0) := by
    by_cases h : data.size = 0
    · rw [bne_empty_false h]; simp [h]
    · rw [bne_empty_true h]; simp [h]
  have hz : ∀ z : Int, (z != 0) = !decide (z = 0) := fun z => by by_cases h : z = 0 <;> simp [h]
  have hp : ∀ k : Nat, decide ((0 : Int) < (k : Nat)) = !decide (k = 0) := fun k => by by_cases h : k = 0 <;> simp [h]; omega
  rw [hb, hz, hz, hz, hz, hz, hp, hp, hp]
  simp [c32, Bool.not_and]
set_option maxRecDepth 100000 in
set_option maxHeartbeats 4000000 in
theorem right32 (w : World) (Q : Exit → Act → World → Prop) (a : Act) (mb g : Nat) {term index prev commit : Int} {good : Bool} {eA : Option Addr} {en ec : Nat} {data : ByteArray} {hA : Option Addr} {hn hc : Nat} {epoch site atN atE whN whE : Int} {oA : Option Addr} {on oc : Nat} {pA : Option Addr} {pn pc : Nat}
    (hfr : Fr 391 a [(1, .pointer (some ⟨mb, 0, none⟩)), (4, .map (some g))]) (h : NamedIs w g [72, 119, 97, 103, 69]) (hm : Blk w mb 30 (mailC 10 term index prev commit good eA en ec data hA hn hc epoch site atN atE whN whE oA on oc pA pn pc))
    (hQ : ∀ a', Fr 391 a' [(1, .pointer (some ⟨mb, 0, none⟩)), (4, .map (some g)), (186, .bool (!(c32 term index prev commit en data hn site pn)))] → Q .normal a' w) :
    (part [1, 1, 1, 1, 1, 0, 0] (codeOf rightF)).wp Try.prog Q a w := by
  have HL116 := Lib.hid (show ∀ W : World, Hid (W = w) → (Instr.lookup 147 (.map (some g)) (.int .u8 116) false).run Try.prog W = .ok (.bool false) W from fun W hW => by rw [hW.out]; exact h.look 116 false (named_at (116, false) (by simp)).2 (named_at (116, false) (by simp)).1)
  have HL105 := Lib.hid (show ∀ W : World, Hid (W = w) → (Instr.lookup 147 (.map (some g)) (.int .u8 105) false).run Try.prog W = .ok (.bool false) W from fun W hW => by rw [hW.out]; exact h.look 105 false (named_at (105, false) (by simp)).2 (named_at (105, false) (by simp)).1)
  have HL112 := Lib.hid (show ∀ W : World, Hid (W = w) → (Instr.lookup 147 (.map (some g)) (.int .u8 112) false).run Try.prog W = .ok (.bool false) W from fun W hW => by rw [hW.out]; exact h.look 112 false (named_at (112, false) (by simp)).2 (named_at (112, false) (by simp)).1)
  have HL99 := Lib.hid (show ∀ W : World, Hid (W = w) → (Instr.lookup 147 (.map (some g)) (.int .u8 99) false).run Try.prog W = .ok (.bool false) W from fun W hW => by rw [hW.out]; exact h.look 99 false (named_at (99, false) (by simp)).2 (named_at (99, false) (by simp)).1)
  have HL103 := Lib.hid (show ∀ W : World, Hid (W = w) → (Instr.lookup 147 (.map (some g)) (.int .u8 103) false).run Try.prog W = .ok (.bool true) W from fun W hW => by rw [hW.out]; exact h.look 103 true (named_at (103, true) (by simp)).2 (named_at (103, true) (by simp)).1)
  have HL101 := Lib.hid (show ∀ W : World, Hid (W = w) → (Instr.lookup 147 (.map (some g)) (.int .u8 101) false).run Try.prog W = .ok (.bool false) W from fun W hW => by rw [hW.out]; exact h.look 101 false (named_at (101, false) (by simp)).2 (named_at (101, false) (by simp)).1)
  have HL100 := Lib.hid (show ∀ W : World, Hid (W = w) → (Instr.lookup 147 (.map (some g)) (.int .u8 100) false).run Try.prog W = .ok (.bool false) W from fun W hW => by rw [hW.out]; exact h.look 100 false (named_at (100, false) (by simp)).2 (named_at (100, false) (by simp)).1)
  have HL104 := Lib.hid (show ∀ W : World, Hid (W = w) → (Instr.lookup 147 (.map (some g)) (.int .u8 104) false).run Try.prog W = .ok (.bool false) W from fun W hW => by rw [hW.out]; exact h.look 104 false (named_at (104, false) (by simp)).2 (named_at (104, false) (by simp)).1)
  have HL69 := Lib.hid (show ∀ W : World, Hid (W = w) → (Instr.lookup 147 (.map (some g)) (.int .u8 69) false).run Try.prog W = .ok (.bool true) W from fun W hW => by rw [hW.out]; exact h.look 69 true (named_at (69, true) (by simp)).2 (named_at (69, true) (by simp)).1)
  have HL115 := Lib.hid (show ∀ W : World, Hid (W = w) → (Instr.lookup 147 (.map (some g)) (.int .u8 115) false).run Try.prog W = .ok (.bool false) W from fun W hW => by rw [hW.out]; exact h.look 115 false (named_at (115, false) (by simp)).2 (named_at (115, false) (by simp)).1)
  have HL97 := Lib.hid (show ∀ W : World, Hid (W = w) → (Instr.lookup 147 (.map (some g)) (.int .u8 97) false).run Try.prog W = .ok (.bool true) W from fun W hW => by rw [hW.out]; exact h.look 97 true (named_at (97, true) (by simp)).2 (named_at (97, true) (by simp)).1)
  have HL119 := Lib.hid (show ∀ W : World, Hid (W = w) → (Instr.lookup 147 (.map (some g)) (.int .u8 119) false).run Try.prog W = .ok (.bool true) W from fun W hW => by rw [hW.out]; exact h.look 119 true (named_at (119, true) (by simp)).2 (named_at (119, true) (by simp)).1)
  have HL79 := Lib.hid (show ∀ W : World, Hid (W = w) → (Instr.lookup 147 (.map (some g)) (.int .u8 79) false).run Try.prog W = .ok (.bool false) W from fun W hW => by rw [hW.out]; exact h.look 79 false (named_at (79, false) (by simp)).2 (named_at (79, false) (by simp)).1)
  have HL72 := Lib.hid (show ∀ W : World, Hid (W = w) → (Instr.lookup 147 (.map (some g)) (.int .u8 72) false).run Try.prog W = .ok (.bool true) W from fun W hW => by rw [hW.out]; exact h.look 72 true (named_at (72, true) (by simp)).2 (named_at (72, true) (by simp)).1)
  have ha1 : a.eval (.tmp 1) = .pointer (some ⟨mb, 0, none⟩) := eval_of hfr.2.2.1
  have ha4 : a.eval (.tmp 4) = .map (some g) := eval_of hfr.2.2.2.1
  have HQ := Lib.hid hQ
  have HM := Lib.hid hm
  clear hQ h hm
  refine wp_region_named (c := (part [1, 1, 1, 1, 1, 0, 0] (codeOf rightF))) (id := 32) (by kernel_rfl) (fun i v W => match i with | 0 => v = .map (some g) | 1 => v = .bool false | 2 => v = .bool true | 3 => v = .bool true | 4 => v = .pointer (some ⟨mb, 1, none⟩) | 5 => v = .int .i64 term | 6 => v = .bool (term != 0) | 7 => v = .bool (term != 0) | 8 => v = .bool (term != 0) | 9 => v = (bif (term != 0) then undef else .map (some g)) | 10 => v = (bif (term != 0) then undef else .bool false) | 11 => v = (bif (term != 0) then undef else .bool true) | 12 => v = (bif (term != 0) then undef else .bool true) | 13 => v = (bif (term != 0) then undef else .pointer (some ⟨mb, 2, none⟩)) | 14 => v = (bif (term != 0) then undef else .int .i64 index) | 15 => v = (bif (term != 0) then undef else .bool (index != 0)) | 16 => v = (bif (term != 0) then undef else .bool (index != 0)) | 17 => v = .bool ((term != 0) || (index != 0)) | 18 => v = .bool ((term != 0) || (index != 0)) | 19 => v = (bif ((term != 0) || (index != 0)) then undef else .map (some g)) | 20 => v = (bif ((term != 0) || (index != 0)) then undef else .bool false) | 21 => v = (bif ((term != 0) || (index != 0)) then undef else .bool true) | 22 => v = (bif ((term != 0) || (index != 0)) then undef else .bool true) | 23 => v = (bif ((term != 0) || (index != 0)) then undef else .pointer (some ⟨mb, 3, none⟩)) | 24 => v = (bif ((term != 0) || (index != 0)) then undef else .int .i64 prev) | 25 => v = (bif ((term != 0) || (index != 0)) then undef else .bool (prev != 0)) | 26 => v = (bif ((term != 0) || (index != 0)) then undef else .bool (prev != 0)) | 27 => v = .bool (((term != 0) || (index != 0)) || (prev != 0)) | 28 => v = .bool (((term != 0) || (index != 0)) || (prev != 0)) | 29 => v = (bif (((term != 0) || (index != 0)) || (prev != 0)) then undef else .map (some g)) | 30 => v = (bif (((term != 0) || (index != 0)) || (prev != 0)) then undef else .bool false) | 31 => v = (bif (((term != 0) || (index != 0)) || (prev != 0)) then undef else .bool true) | 32 => v = (bif (((term != 0) || (index != 0)) || (prev != 0)) then undef else .bool true) | 33 => v = (bif (((term != 0) || (index != 0)) || (prev != 0)) then undef else .pointer (some ⟨mb, 4, none⟩)) | 34 => v = (bif (((term != 0) || (index != 0)) || (prev != 0)) then undef else .int .i64 commit) | 35 => v = (bif (((term != 0) || (index != 0)) || (prev != 0)) then undef else .bool (commit != 0)) | 36 => v = (bif (((term != 0) || (index != 0)) || (prev != 0)) then undef else .bool (commit != 0)) | 37 => v = .bool ((((term != 0) || (index != 0)) || (prev != 0)) || (commit != 0)) | 38 => v = .bool ((((term != 0) || (index != 0)) || (prev != 0)) || (commit != 0)) | 39 => v = (bif ((((term != 0) || (index != 0)) || (prev != 0)) || (commit != 0)) then undef else .map (some g)) | 40 => v = (bif ((((term != 0) || (index != 0)) || (prev != 0)) || (commit != 0)) then undef else .bool true) | 41 => v = (bif ((((term != 0) || (index != 0)) || (prev != 0)) || (commit != 0)) then undef else .bool false) | 42 => v = (bif ((((term != 0) || (index != 0)) || (prev != 0)) || (commit != 0)) then undef else .bool false) | 43 => v = undef | 44 => v = undef | 45 => v = (bif ((((term != 0) || (index != 0)) || (prev != 0)) || (commit != 0)) then undef else .bool false) | 46 => v = .bool ((((term != 0) || (index != 0)) || (prev != 0)) || (commit != 0)) | 47 => v = .bool ((((term != 0) || (index != 0)) || (prev != 0)) || (commit != 0)) | 48 => v = (bif ((((term != 0) || (index != 0)) || (prev != 0)) || (commit != 0)) then undef else .map (some g)) | 49 => v = (bif ((((term != 0) || (index != 0)) || (prev != 0)) || (commit != 0)) then undef else .bool false) | 50 => v = (bif ((((term != 0) || (index != 0)) || (prev != 0)) || (commit != 0)) then undef else .bool true) | 51 => v = (bif ((((term != 0) || (index != 0)) || (prev != 0)) || (commit != 0)) then undef else .bool true) | 52 => v = (bif ((((term != 0) || (index != 0)) || (prev != 0)) || (commit != 0)) then undef else .pointer (some ⟨mb, 6, none⟩)) | 53 => v = (bif ((((term != 0) || (index != 0)) || (prev != 0)) || (commit != 0)) then undef else .slice eA en ec) | 54 => v = (bif ((((term != 0) || (index != 0)) || (prev != 0)) || (commit != 0)) then undef else .int .i64 (en : Nat)) | 55 => v = (bif ((((term != 0) || (index != 0)) || (prev != 0)) || (commit != 0)) then undef else .bool (decide ((0 : Int) < (en : Nat)))) | 56 => v = (bif ((((term != 0) || (index != 0)) || (prev != 0)) || (commit != 0)) then undef else .bool (decide ((0 : Int) < (en : Nat)))) | 57 => v = .bool (((((term != 0) || (index != 0)) || (prev != 0)) || (commit != 0)) || (decide ((0 : Int) < (en : Nat)))) | 58 => v = .bool (((((term != 0) || (index != 0)) || (prev != 0)) || (commit != 0)) || (decide ((0 : Int) < (en : Nat)))) | 59 => v = (bif (((((term != 0) || (index != 0)) || (prev != 0)) || (commit != 0)) || (decide ((0 : Int) < (en : Nat)))) then undef else .map (some g)) | 60 => v = (bif (((((term != 0) || (index != 0)) || (prev != 0)) || (commit != 0)) || (decide ((0 : Int) < (en : Nat)))) then undef else .bool false) | 61 => v = (bif (((((term != 0) || (index != 0)) || (prev != 0)) || (commit != 0)) || (decide ((0 : Int) < (en : Nat)))) then undef else .bool true) | 62 => v = (bif (((((term != 0) || (index != 0)) || (prev != 0)) || (commit != 0)) || (decide ((0 : Int) < (en : Nat)))) then undef else .bool true) | 63 => v = (bif (((((term != 0) || (index != 0)) || (prev != 0)) || (commit != 0)) || (decide ((0 : Int) < (en : Nat)))) then undef else .pointer (some ⟨mb, 7, none⟩)) | 64 => v = (bif (((((term != 0) || (index != 0)) || (prev != 0)) || (commit != 0)) || (decide ((0 : Int) < (en : Nat)))) then undef else .string data) | 65 => v = (bif (((((term != 0) || (index != 0)) || (prev != 0)) || (commit != 0)) || (decide ((0 : Int) < (en : Nat)))) then undef else .bool (data != ⟨#[]⟩)) | 66 => v = (bif (((((term != 0) || (index != 0)) || (prev != 0)) || (commit != 0)) || (decide ((0 : Int) < (en : Nat)))) then undef else .bool (data != ⟨#[]⟩)) | 67 => v = .bool ((((((term != 0) || (index != 0)) || (prev != 0)) || (commit != 0)) || (decide ((0 : Int) < (en : Nat)))) || (data != ⟨#[]⟩)) | 68 => v = .bool ((((((term != 0) || (index != 0)) || (prev != 0)) || (commit != 0)) || (decide ((0 : Int) < (en : Nat)))) || (data != ⟨#[]⟩)) | 69 => v = (bif ((((((term != 0) || (index != 0)) || (prev != 0)) || (commit != 0)) || (decide ((0 : Int) < (en : Nat)))) || (data != ⟨#[]⟩)) then undef else .map (some g)) | 70 => v = (bif ((((((term != 0) || (index != 0)) || (prev != 0)) || (commit != 0)) || (decide ((0 : Int) < (en : Nat)))) || (data != ⟨#[]⟩)) then undef else .bool false) | 71 => v = (bif ((((((term != 0) || (index != 0)) || (prev != 0)) || (commit != 0)) || (decide ((0 : Int) < (en : Nat)))) || (data != ⟨#[]⟩)) then undef else .bool true) | 72 => v = (bif ((((((term != 0) || (index != 0)) || (prev != 0)) || (commit != 0)) || (decide ((0 : Int) < (en : Nat)))) || (data != ⟨#[]⟩)) then undef else .bool true) | 73 => v = (bif ((((((term != 0) || (index != 0)) || (prev != 0)) || (commit != 0)) || (decide ((0 : Int) < (en : Nat)))) || (data != ⟨#[]⟩)) then undef else .pointer (some ⟨mb, 8, none⟩)) | 74 => v = (bif ((((((term != 0) || (index != 0)) || (prev != 0)) || (commit != 0)) || (decide ((0 : Int) < (en : Nat)))) || (data != ⟨#[]⟩)) then undef else .slice hA hn hc) | 75 => v = (bif ((((((term != 0) || (index != 0)) || (prev != 0)) || (commit != 0)) || (decide ((0 : Int) < (en : Nat)))) || (data != ⟨#[]⟩)) then undef else .int .i64 (hn : Nat)) | 76 => v = (bif ((((((term != 0) || (index != 0)) || (prev != 0)) || (commit != 0)) || (decide ((0 : Int) < (en : Nat)))) || (data != ⟨#[]⟩)) then undef else .bool (decide ((0 : Int) < (hn : Nat)))) | 77 => v = (bif ((((((term != 0) || (index != 0)) || (prev != 0)) || (commit != 0)) || (decide ((0 : Int) < (en : Nat)))) || (data != ⟨#[]⟩)) then undef else .bool (decide ((0 : Int) < (hn : Nat)))) | 78 => v = .bool (((((((term != 0) || (index != 0)) || (prev != 0)) || (commit != 0)) || (decide ((0 : Int) < (en : Nat)))) || (data != ⟨#[]⟩)) || (decide ((0 : Int) < (hn : Nat)))) | 79 => v = .bool (((((((term != 0) || (index != 0)) || (prev != 0)) || (commit != 0)) || (decide ((0 : Int) < (en : Nat)))) || (data != ⟨#[]⟩)) || (decide ((0 : Int) < (hn : Nat)))) | 80 => v = (bif (((((((term != 0) || (index != 0)) || (prev != 0)) || (commit != 0)) || (decide ((0 : Int) < (en : Nat)))) || (data != ⟨#[]⟩)) || (decide ((0 : Int) < (hn : Nat)))) then undef else .map (some g)) | 81 => v = (bif (((((((term != 0) || (index != 0)) || (prev != 0)) || (commit != 0)) || (decide ((0 : Int) < (en : Nat)))) || (data != ⟨#[]⟩)) || (decide ((0 : Int) < (hn : Nat)))) then undef else .bool true) | 82 => v = (bif (((((((term != 0) || (index != 0)) || (prev != 0)) || (commit != 0)) || (decide ((0 : Int) < (en : Nat)))) || (data != ⟨#[]⟩)) || (decide ((0 : Int) < (hn : Nat)))) then undef else .bool false) | 83 => v = (bif (((((((term != 0) || (index != 0)) || (prev != 0)) || (commit != 0)) || (decide ((0 : Int) < (en : Nat)))) || (data != ⟨#[]⟩)) || (decide ((0 : Int) < (hn : Nat)))) then undef else .bool false) | 84 => v = undef | 85 => v = undef | 86 => v = undef | 87 => v = (bif (((((((term != 0) || (index != 0)) || (prev != 0)) || (commit != 0)) || (decide ((0 : Int) < (en : Nat)))) || (data != ⟨#[]⟩)) || (decide ((0 : Int) < (hn : Nat)))) then undef else .bool false) | 88 => v = .bool (((((((term != 0) || (index != 0)) || (prev != 0)) || (commit != 0)) || (decide ((0 : Int) < (en : Nat)))) || (data != ⟨#[]⟩)) || (decide ((0 : Int) < (hn : Nat)))) | 89 => v = .bool (((((((term != 0) || (index != 0)) || (prev != 0)) || (commit != 0)) || (decide ((0 : Int) < (en : Nat)))) || (data != ⟨#[]⟩)) || (decide ((0 : Int) < (hn : Nat)))) | 90 => v = (bif (((((((term != 0) || (index != 0)) || (prev != 0)) || (commit != 0)) || (decide ((0 : Int) < (en : Nat)))) || (data != ⟨#[]⟩)) || (decide ((0 : Int) < (hn : Nat)))) then undef else .map (some g)) | 91 => v = (bif (((((((term != 0) || (index != 0)) || (prev != 0)) || (commit != 0)) || (decide ((0 : Int) < (en : Nat)))) || (data != ⟨#[]⟩)) || (decide ((0 : Int) < (hn : Nat)))) then undef else .bool false) | 92 => v = (bif (((((((term != 0) || (index != 0)) || (prev != 0)) || (commit != 0)) || (decide ((0 : Int) < (en : Nat)))) || (data != ⟨#[]⟩)) || (decide ((0 : Int) < (hn : Nat)))) then undef else .bool true) | 93 => v = (bif (((((((term != 0) || (index != 0)) || (prev != 0)) || (commit != 0)) || (decide ((0 : Int) < (en : Nat)))) || (data != ⟨#[]⟩)) || (decide ((0 : Int) < (hn : Nat)))) then undef else .bool true) | 94 => v = (bif (((((((term != 0) || (index != 0)) || (prev != 0)) || (commit != 0)) || (decide ((0 : Int) < (en : Nat)))) || (data != ⟨#[]⟩)) || (decide ((0 : Int) < (hn : Nat)))) then undef else .pointer (some ⟨mb, 10, none⟩)) | 95 => v = (bif (((((((term != 0) || (index != 0)) || (prev != 0)) || (commit != 0)) || (decide ((0 : Int) < (en : Nat)))) || (data != ⟨#[]⟩)) || (decide ((0 : Int) < (hn : Nat)))) then undef else .int .i64 site) | 96 => v = (bif (((((((term != 0) || (index != 0)) || (prev != 0)) || (commit != 0)) || (decide ((0 : Int) < (en : Nat)))) || (data != ⟨#[]⟩)) || (decide ((0 : Int) < (hn : Nat)))) then undef else .bool (site != 0)) | 97 => v = (bif (((((((term != 0) || (index != 0)) || (prev != 0)) || (commit != 0)) || (decide ((0 : Int) < (en : Nat)))) || (data != ⟨#[]⟩)) || (decide ((0 : Int) < (hn : Nat)))) then undef else .bool (site != 0)) | 98 => v = .bool ((((((((term != 0) || (index != 0)) || (prev != 0)) || (commit != 0)) || (decide ((0 : Int) < (en : Nat)))) || (data != ⟨#[]⟩)) || (decide ((0 : Int) < (hn : Nat)))) || (site != 0)) | 99 => v = .bool ((((((((term != 0) || (index != 0)) || (prev != 0)) || (commit != 0)) || (decide ((0 : Int) < (en : Nat)))) || (data != ⟨#[]⟩)) || (decide ((0 : Int) < (hn : Nat)))) || (site != 0)) | 100 => v = (bif ((((((((term != 0) || (index != 0)) || (prev != 0)) || (commit != 0)) || (decide ((0 : Int) < (en : Nat)))) || (data != ⟨#[]⟩)) || (decide ((0 : Int) < (hn : Nat)))) || (site != 0)) then undef else .map (some g)) | 101 => v = (bif ((((((((term != 0) || (index != 0)) || (prev != 0)) || (commit != 0)) || (decide ((0 : Int) < (en : Nat)))) || (data != ⟨#[]⟩)) || (decide ((0 : Int) < (hn : Nat)))) || (site != 0)) then undef else .bool true) | 102 => v = (bif ((((((((term != 0) || (index != 0)) || (prev != 0)) || (commit != 0)) || (decide ((0 : Int) < (en : Nat)))) || (data != ⟨#[]⟩)) || (decide ((0 : Int) < (hn : Nat)))) || (site != 0)) then undef else .bool false) | 103 => v = (bif ((((((((term != 0) || (index != 0)) || (prev != 0)) || (commit != 0)) || (decide ((0 : Int) < (en : Nat)))) || (data != ⟨#[]⟩)) || (decide ((0 : Int) < (hn : Nat)))) || (site != 0)) then undef else .bool false) | 104 => v = undef | 105 => v = undef | 106 => v = undef | 107 => v = undef | 108 => v = (bif ((((((((term != 0) || (index != 0)) || (prev != 0)) || (commit != 0)) || (decide ((0 : Int) < (en : Nat)))) || (data != ⟨#[]⟩)) || (decide ((0 : Int) < (hn : Nat)))) || (site != 0)) then undef else .bool false) | 109 => v = .bool ((((((((term != 0) || (index != 0)) || (prev != 0)) || (commit != 0)) || (decide ((0 : Int) < (en : Nat)))) || (data != ⟨#[]⟩)) || (decide ((0 : Int) < (hn : Nat)))) || (site != 0)) | 110 => v = .bool ((((((((term != 0) || (index != 0)) || (prev != 0)) || (commit != 0)) || (decide ((0 : Int) < (en : Nat)))) || (data != ⟨#[]⟩)) || (decide ((0 : Int) < (hn : Nat)))) || (site != 0)) | 111 => v = (bif ((((((((term != 0) || (index != 0)) || (prev != 0)) || (commit != 0)) || (decide ((0 : Int) < (en : Nat)))) || (data != ⟨#[]⟩)) || (decide ((0 : Int) < (hn : Nat)))) || (site != 0)) then undef else .map (some g)) | 112 => v = (bif ((((((((term != 0) || (index != 0)) || (prev != 0)) || (commit != 0)) || (decide ((0 : Int) < (en : Nat)))) || (data != ⟨#[]⟩)) || (decide ((0 : Int) < (hn : Nat)))) || (site != 0)) then undef else .bool true) | 113 => v = (bif ((((((((term != 0) || (index != 0)) || (prev != 0)) || (commit != 0)) || (decide ((0 : Int) < (en : Nat)))) || (data != ⟨#[]⟩)) || (decide ((0 : Int) < (hn : Nat)))) || (site != 0)) then undef else .bool false) | 114 => v = (bif ((((((((term != 0) || (index != 0)) || (prev != 0)) || (commit != 0)) || (decide ((0 : Int) < (en : Nat)))) || (data != ⟨#[]⟩)) || (decide ((0 : Int) < (hn : Nat)))) || (site != 0)) then undef else .bool false) | 115 => v = undef | 116 => v = undef | 117 => v = undef | 118 => v = undef | 119 => v = (bif ((((((((term != 0) || (index != 0)) || (prev != 0)) || (commit != 0)) || (decide ((0 : Int) < (en : Nat)))) || (data != ⟨#[]⟩)) || (decide ((0 : Int) < (hn : Nat)))) || (site != 0)) then undef else .bool false) | 120 => v = .bool ((((((((term != 0) || (index != 0)) || (prev != 0)) || (commit != 0)) || (decide ((0 : Int) < (en : Nat)))) || (data != ⟨#[]⟩)) || (decide ((0 : Int) < (hn : Nat)))) || (site != 0)) | 121 => v = .bool ((((((((term != 0) || (index != 0)) || (prev != 0)) || (commit != 0)) || (decide ((0 : Int) < (en : Nat)))) || (data != ⟨#[]⟩)) || (decide ((0 : Int) < (hn : Nat)))) || (site != 0)) | 122 => v = (bif ((((((((term != 0) || (index != 0)) || (prev != 0)) || (commit != 0)) || (decide ((0 : Int) < (en : Nat)))) || (data != ⟨#[]⟩)) || (decide ((0 : Int) < (hn : Nat)))) || (site != 0)) then undef else .map (some g)) | 123 => v = (bif ((((((((term != 0) || (index != 0)) || (prev != 0)) || (commit != 0)) || (decide ((0 : Int) < (en : Nat)))) || (data != ⟨#[]⟩)) || (decide ((0 : Int) < (hn : Nat)))) || (site != 0)) then undef else .bool false) | 124 => v = (bif ((((((((term != 0) || (index != 0)) || (prev != 0)) || (commit != 0)) || (decide ((0 : Int) < (en : Nat)))) || (data != ⟨#[]⟩)) || (decide ((0 : Int) < (hn : Nat)))) || (site != 0)) then undef else .bool true) | 125 => v = (bif ((((((((term != 0) || (index != 0)) || (prev != 0)) || (commit != 0)) || (decide ((0 : Int) < (en : Nat)))) || (data != ⟨#[]⟩)) || (decide ((0 : Int) < (hn : Nat)))) || (site != 0)) then undef else .bool true) | 126 => v = (bif ((((((((term != 0) || (index != 0)) || (prev != 0)) || (commit != 0)) || (decide ((0 : Int) < (en : Nat)))) || (data != ⟨#[]⟩)) || (decide ((0 : Int) < (hn : Nat)))) || (site != 0)) then undef else .pointer (some ⟨mb, 16, none⟩)) | 127 => v = (bif ((((((((term != 0) || (index != 0)) || (prev != 0)) || (commit != 0)) || (decide ((0 : Int) < (en : Nat)))) || (data != ⟨#[]⟩)) || (decide ((0 : Int) < (hn : Nat)))) || (site != 0)) then undef else .slice pA pn pc) | 128 => v = (bif ((((((((term != 0) || (index != 0)) || (prev != 0)) || (commit != 0)) || (decide ((0 : Int) < (en : Nat)))) || (data != ⟨#[]⟩)) || (decide ((0 : Int) < (hn : Nat)))) || (site != 0)) then undef else .int .i64 (pn : Nat)) | 129 => v = (bif ((((((((term != 0) || (index != 0)) || (prev != 0)) || (commit != 0)) || (decide ((0 : Int) < (en : Nat)))) || (data != ⟨#[]⟩)) || (decide ((0 : Int) < (hn : Nat)))) || (site != 0)) then undef else .bool (decide ((0 : Int) < (pn : Nat)))) | 130 => v = (bif ((((((((term != 0) || (index != 0)) || (prev != 0)) || (commit != 0)) || (decide ((0 : Int) < (en : Nat)))) || (data != ⟨#[]⟩)) || (decide ((0 : Int) < (hn : Nat)))) || (site != 0)) then undef else .bool (decide ((0 : Int) < (pn : Nat)))) | 131 => v = .bool (((((((((term != 0) || (index != 0)) || (prev != 0)) || (commit != 0)) || (decide ((0 : Int) < (en : Nat)))) || (data != ⟨#[]⟩)) || (decide ((0 : Int) < (hn : Nat)))) || (site != 0)) || (decide ((0 : Int) < (pn : Nat)))) | 132 => v = .bool (((((((((term != 0) || (index != 0)) || (prev != 0)) || (commit != 0)) || (decide ((0 : Int) < (en : Nat)))) || (data != ⟨#[]⟩)) || (decide ((0 : Int) < (hn : Nat)))) || (site != 0)) || (decide ((0 : Int) < (pn : Nat)))) | 133 => v = (bif (((((((((term != 0) || (index != 0)) || (prev != 0)) || (commit != 0)) || (decide ((0 : Int) < (en : Nat)))) || (data != ⟨#[]⟩)) || (decide ((0 : Int) < (hn : Nat)))) || (site != 0)) || (decide ((0 : Int) < (pn : Nat)))) then undef else .map (some g)) | 134 => v = (bif (((((((((term != 0) || (index != 0)) || (prev != 0)) || (commit != 0)) || (decide ((0 : Int) < (en : Nat)))) || (data != ⟨#[]⟩)) || (decide ((0 : Int) < (hn : Nat)))) || (site != 0)) || (decide ((0 : Int) < (pn : Nat)))) then undef else .bool true) | 135 => v = (bif (((((((((term != 0) || (index != 0)) || (prev != 0)) || (commit != 0)) || (decide ((0 : Int) < (en : Nat)))) || (data != ⟨#[]⟩)) || (decide ((0 : Int) < (hn : Nat)))) || (site != 0)) || (decide ((0 : Int) < (pn : Nat)))) then undef else .bool false) | 136 => v = (bif (((((((((term != 0) || (index != 0)) || (prev != 0)) || (commit != 0)) || (decide ((0 : Int) < (en : Nat)))) || (data != ⟨#[]⟩)) || (decide ((0 : Int) < (hn : Nat)))) || (site != 0)) || (decide ((0 : Int) < (pn : Nat)))) then undef else .bool false) | 137 => v = undef | 138 => v = undef | 139 => v = undef | 140 => v = undef | 141 => v = (bif (((((((((term != 0) || (index != 0)) || (prev != 0)) || (commit != 0)) || (decide ((0 : Int) < (en : Nat)))) || (data != ⟨#[]⟩)) || (decide ((0 : Int) < (hn : Nat)))) || (site != 0)) || (decide ((0 : Int) < (pn : Nat)))) then undef else .bool false) | 142 => v = .bool (((((((((term != 0) || (index != 0)) || (prev != 0)) || (commit != 0)) || (decide ((0 : Int) < (en : Nat)))) || (data != ⟨#[]⟩)) || (decide ((0 : Int) < (hn : Nat)))) || (site != 0)) || (decide ((0 : Int) < (pn : Nat)))) | _ => True) (fun W => Blk W mb 30 (mailC 10 term index prev commit good eA en ec data hA hn hc epoch site atN atE whN whE oA on oc pA pn pc) ∧ Hid (W = w)) (fun W W' => True) ?hsz ?hG ?hmono ?hstep ?hend
  case hsz => rw [hfr.2.1]; kernel_rfl
  case hG => exact ⟨HM.out, Lib.hid rfl⟩
  case hmono =>
    intro i v W W' hx hv
    exact hv
  case hstep =>
    intro i o F U W ho hGW hat hoff hp
    have hrefl := fun _ : World => trivial
    match i with
      | 0 =>
        conv at ho => lhs; whnf; arg 1; whnf
        injection ho with ho
        subst ho
        refine on_ (wanted_none rfl) ?_
        have e4 : F.eval (.tmp 4) = .map (some g) := (hoff 4 (of_decide_eq_true (by kernel_rfl))).trans ha4
        have t4 := act_tmp e4
        exact wp_move' (.tmp 4) rfl ⟨_, rfl, e4, hGW, hrefl W⟩
      | 1 =>
        conv at ho => lhs; whnf; arg 1; whnf
        injection ho with ho
        subst ho
        refine on_ (wanted_none rfl) ?_
        have e44' := (hat 0 44 (of_decide_eq_true (by kernel_rfl)) (by kernel_rfl)).trans (hp 0 (by omega))
        have e44 : F.eval (.tmp 44) = .map (some g) := e44'
        have t44 := act_tmp e44
        clear e44'
        clear hat hoff hp
        have l := HL116.out W hGW.2
        exact wp_value' (.bool false) W (by unfold execOp; go_simp) ⟨_, rfl, rfl, hGW, hrefl W⟩
      | 2 =>
        conv at ho => lhs; whnf; arg 1; whnf
        injection ho with ho
        subst ho
        refine on_ (wanted_none rfl) ?_
        have e45' := (hat 1 45 (of_decide_eq_true (by kernel_rfl)) (by kernel_rfl)).trans (hp 1 (by omega))
        have e45 : F.eval (.tmp 45) = .bool false := e45'
        have t45 := act_tmp e45
        clear e45'
        clear hat hoff hp
        exact wp_value' (.bool true) W (by unfold execOp; go_simp) ⟨_, rfl, rfl, hGW, hrefl W⟩
      | 3 =>
        conv at ho => lhs; whnf; arg 1; whnf
        injection ho with ho
        subst ho
        refine on_ (wanted_none rfl) ?_
        have e46' := (hat 2 46 (of_decide_eq_true (by kernel_rfl)) (by kernel_rfl)).trans (hp 2 (by omega))
        have e46 : F.eval (.tmp 46) = .bool true := e46'
        have t46 := act_tmp e46
        clear e46'
        exact wp_move' (.tmp 46) rfl ⟨_, rfl, e46, hGW, hrefl W⟩
      | 4 =>
        conv at ho => lhs; whnf; arg 1; whnf
        injection ho with ho
        subst ho
        have eg := (hat 3 47 (of_decide_eq_true (by kernel_rfl)) (by kernel_rfl)).trans (hp 3 (by omega))
        refine on_ ((wanted_by (c := true) rfl (by kernel_rfl) eg).trans rfl) ?_
        have e1 : F.eval (.tmp 1) = .pointer (some ⟨mb, 0, none⟩) := (hoff 1 (of_decide_eq_true (by kernel_rfl))).trans ha1
        have t1 := act_tmp e1
        clear hat hoff hp
        exact wp_value' (.pointer (some ⟨mb, 1, none⟩)) W (by unfold execOp; go_simp) ⟨_, rfl, rfl, hGW, hrefl W⟩
      | 5 =>
        conv at ho => lhs; whnf; arg 1; whnf
        injection ho with ho
        subst ho
        have eg := (hat 3 47 (of_decide_eq_true (by kernel_rfl)) (by kernel_rfl)).trans (hp 3 (by omega))
        refine on_ ((wanted_by (c := true) rfl (by kernel_rfl) eg).trans rfl) ?_
        have e48' := (hat 4 48 (of_decide_eq_true (by kernel_rfl)) (by kernel_rfl)).trans (hp 4 (by omega))
        have e48 : F.eval (.tmp 48) = .pointer (some ⟨mb, 1, none⟩) := e48'
        have t48 := act_tmp e48
        clear e48'
        clear hat hoff hp
        have d := hGW.1.cell 1
        simp at d
        exact wp_value' (.int .i64 term) W (by unfold execOp; go_simp) ⟨_, rfl, rfl, hGW, hrefl W⟩
      | 6 =>
        conv at ho => lhs; whnf; arg 1; whnf
        injection ho with ho
        subst ho
        have eg := (hat 3 47 (of_decide_eq_true (by kernel_rfl)) (by kernel_rfl)).trans (hp 3 (by omega))
        refine on_ ((wanted_by (c := true) rfl (by kernel_rfl) eg).trans rfl) ?_
        have e49' := (hat 5 49 (of_decide_eq_true (by kernel_rfl)) (by kernel_rfl)).trans (hp 5 (by omega))
        have e49 : F.eval (.tmp 49) = .int .i64 term := e49'
        have t49 := act_tmp e49
        clear e49'
        clear hat hoff hp
        exact wp_value' (.bool (term != 0)) W (by unfold execOp; go_simp) ⟨_, rfl, rfl, hGW, hrefl W⟩
      | 7 =>
        conv at ho => lhs; whnf; arg 1; whnf
        injection ho with ho
        subst ho
        refine on_ (wanted_none rfl) ?_
        have e47' := (hat 3 47 (of_decide_eq_true (by kernel_rfl)) (by kernel_rfl)).trans (hp 3 (by omega))
        have e47 : F.eval (.tmp 47) = .bool true := e47'
        have t47 := act_tmp e47
        clear e47'
        have e50' := (hat 6 50 (of_decide_eq_true (by kernel_rfl)) (by kernel_rfl)).trans (hp 6 (by omega))
        have e50 : F.eval (.tmp 50) = .bool (term != 0) := e50'
        have t50 := act_tmp e50
        clear e50'
        clear hat hoff hp
        exact wp_value' (.bool (term != 0)) W (by unfold execOp; go_simp) ⟨_, rfl, rfl, hGW, hrefl W⟩
      | 8 =>
        conv at ho => lhs; whnf; arg 1; whnf
        injection ho with ho
        subst ho
        refine on_ (wanted_none rfl) ?_
        have e51' := (hat 7 51 (of_decide_eq_true (by kernel_rfl)) (by kernel_rfl)).trans (hp 7 (by omega))
        have e51 : F.eval (.tmp 51) = .bool (term != 0) := e51'
        have t51 := act_tmp e51
        clear e51'
        exact wp_move' (.tmp 51) rfl ⟨_, rfl, e51, hGW, hrefl W⟩
      | 9 =>
        conv at ho => lhs; whnf; arg 1; whnf
        injection ho with ho
        subst ho
        cases q0 : (term != 0) with
        | true =>
          have eg := (hat 8 52 (of_decide_eq_true (by kernel_rfl)) (by kernel_rfl)).trans (hp 8 (by omega))
          rw [q0] at eg
          exact off_ (W := W) ((wanted_by (c := true) rfl (by kernel_rfl) eg).trans rfl) rfl
        | false =>
          have eg := (hat 8 52 (of_decide_eq_true (by kernel_rfl)) (by kernel_rfl)).trans (hp 8 (by omega))
          rw [q0] at eg
          refine on_ ((wanted_by (c := false) rfl (by kernel_rfl) eg).trans rfl) ?_
          have e4 : F.eval (.tmp 4) = .map (some g) := (hoff 4 (of_decide_eq_true (by kernel_rfl))).trans ha4
          have t4 := act_tmp e4
          exact wp_move' (.tmp 4) rfl ⟨_, rfl, e4, hGW, hrefl W⟩
      | 10 =>
        conv at ho => lhs; whnf; arg 1; whnf
        injection ho with ho
        subst ho
        cases q0 : (term != 0) with
        | true =>
          have eg := (hat 8 52 (of_decide_eq_true (by kernel_rfl)) (by kernel_rfl)).trans (hp 8 (by omega))
          rw [q0] at eg
          exact off_ (W := W) ((wanted_by (c := true) rfl (by kernel_rfl) eg).trans rfl) rfl
        | false =>
          have eg := (hat 8 52 (of_decide_eq_true (by kernel_rfl)) (by kernel_rfl)).trans (hp 8 (by omega))
          rw [q0] at eg
          refine on_ ((wanted_by (c := false) rfl (by kernel_rfl) eg).trans rfl) ?_
          have e53' := (hat 9 53 (of_decide_eq_true (by kernel_rfl)) (by kernel_rfl)).trans (hp 9 (by omega))
          rw [q0] at e53'
          have e53 : F.eval (.tmp 53) = .map (some g) := e53'
          have t53 := act_tmp e53
          clear e53'
          clear hat hoff hp
          have l := HL105.out W hGW.2
          exact wp_value' (.bool false) W (by unfold execOp; go_simp) ⟨_, rfl, rfl, hGW, hrefl W⟩
      | 11 =>
        conv at ho => lhs; whnf; arg 1; whnf
        injection ho with ho
        subst ho
        cases q0 : (term != 0) with
        | true =>
          have eg := (hat 8 52 (of_decide_eq_true (by kernel_rfl)) (by kernel_rfl)).trans (hp 8 (by omega))
          rw [q0] at eg
          exact off_ (W := W) ((wanted_by (c := true) rfl (by kernel_rfl) eg).trans rfl) rfl
        | false =>
          have eg := (hat 8 52 (of_decide_eq_true (by kernel_rfl)) (by kernel_rfl)).trans (hp 8 (by omega))
          rw [q0] at eg
          refine on_ ((wanted_by (c := false) rfl (by kernel_rfl) eg).trans rfl) ?_
          have e54' := (hat 10 54 (of_decide_eq_true (by kernel_rfl)) (by kernel_rfl)).trans (hp 10 (by omega))
          rw [q0] at e54'
          have e54 : F.eval (.tmp 54) = .bool false := e54'
          have t54 := act_tmp e54
          clear e54'
          clear hat hoff hp
          exact wp_value' (.bool true) W (by unfold execOp; go_simp) ⟨_, rfl, rfl, hGW, hrefl W⟩
      | 12 =>
        conv at ho => lhs; whnf; arg 1; whnf
        injection ho with ho
        subst ho
        cases q0 : (term != 0) with
        | true =>
          have eg := (hat 8 52 (of_decide_eq_true (by kernel_rfl)) (by kernel_rfl)).trans (hp 8 (by omega))
          rw [q0] at eg
          exact off_ (W := W) ((wanted_by (c := true) rfl (by kernel_rfl) eg).trans rfl) rfl
        | false =>
          have eg := (hat 8 52 (of_decide_eq_true (by kernel_rfl)) (by kernel_rfl)).trans (hp 8 (by omega))
          rw [q0] at eg
          refine on_ ((wanted_by (c := false) rfl (by kernel_rfl) eg).trans rfl) ?_
          have e55' := (hat 11 55 (of_decide_eq_true (by kernel_rfl)) (by kernel_rfl)).trans (hp 11 (by omega))
          rw [q0] at e55'
          have e55 : F.eval (.tmp 55) = .bool true := e55'
          have t55 := act_tmp e55
          clear e55'
          exact wp_move' (.tmp 55) rfl ⟨_, rfl, e55, hGW, hrefl W⟩
      | 13 =>
        conv at ho => lhs; whnf; arg 1; whnf
        injection ho with ho
        subst ho
        cases q0 : (term != 0) with
        | true =>
          have eg := (hat 12 56 (of_decide_eq_true (by kernel_rfl)) (by kernel_rfl)).trans (hp 12 (by omega))
          rw [q0] at eg
          exact off_ (W := W) (wanted_undef rfl (by kernel_rfl) eg) rfl
        | false =>
          have eg := (hat 12 56 (of_decide_eq_true (by kernel_rfl)) (by kernel_rfl)).trans (hp 12 (by omega))
          rw [q0] at eg
          refine on_ ((wanted_by (c := true) rfl (by kernel_rfl) eg).trans rfl) ?_
          have e1 : F.eval (.tmp 1) = .pointer (some ⟨mb, 0, none⟩) := (hoff 1 (of_decide_eq_true (by kernel_rfl))).trans ha1
          have t1 := act_tmp e1
          clear hat hoff hp
          exact wp_value' (.pointer (some ⟨mb, 2, none⟩)) W (by unfold execOp; go_simp) ⟨_, rfl, rfl, hGW, hrefl W⟩
      | 14 =>
        conv at ho => lhs; whnf; arg 1; whnf
        injection ho with ho
        subst ho
        cases q0 : (term != 0) with
        | true =>
          have eg := (hat 12 56 (of_decide_eq_true (by kernel_rfl)) (by kernel_rfl)).trans (hp 12 (by omega))
          rw [q0] at eg
          exact off_ (W := W) (wanted_undef rfl (by kernel_rfl) eg) rfl
        | false =>
          have eg := (hat 12 56 (of_decide_eq_true (by kernel_rfl)) (by kernel_rfl)).trans (hp 12 (by omega))
          rw [q0] at eg
          refine on_ ((wanted_by (c := true) rfl (by kernel_rfl) eg).trans rfl) ?_
          have e57' := (hat 13 57 (of_decide_eq_true (by kernel_rfl)) (by kernel_rfl)).trans (hp 13 (by omega))
          rw [q0] at e57'
          have e57 : F.eval (.tmp 57) = .pointer (some ⟨mb, 2, none⟩) := e57'
          have t57 := act_tmp e57
          clear e57'
          clear hat hoff hp
          have d := hGW.1.cell 2
          simp at d
          exact wp_value' (.int .i64 index) W (by unfold execOp; go_simp) ⟨_, rfl, rfl, hGW, hrefl W⟩
      | 15 =>
        conv at ho => lhs; whnf; arg 1; whnf
        injection ho with ho
        subst ho
        cases q0 : (term != 0) with
        | true =>
          have eg := (hat 12 56 (of_decide_eq_true (by kernel_rfl)) (by kernel_rfl)).trans (hp 12 (by omega))
          rw [q0] at eg
          exact off_ (W := W) (wanted_undef rfl (by kernel_rfl) eg) rfl
        | false =>
          have eg := (hat 12 56 (of_decide_eq_true (by kernel_rfl)) (by kernel_rfl)).trans (hp 12 (by omega))
          rw [q0] at eg
          refine on_ ((wanted_by (c := true) rfl (by kernel_rfl) eg).trans rfl) ?_
          have e58' := (hat 14 58 (of_decide_eq_true (by kernel_rfl)) (by kernel_rfl)).trans (hp 14 (by omega))
          rw [q0] at e58'
          have e58 : F.eval (.tmp 58) = .int .i64 index := e58'
          have t58 := act_tmp e58
          clear e58'
          clear hat hoff hp
          exact wp_value' (.bool (index != 0)) W (by unfold execOp; go_simp) ⟨_, rfl, rfl, hGW, hrefl W⟩
      | 16 =>
        conv at ho => lhs; whnf; arg 1; whnf
        injection ho with ho
        subst ho
        cases q0 : (term != 0) with
        | true =>
          have eg := (hat 8 52 (of_decide_eq_true (by kernel_rfl)) (by kernel_rfl)).trans (hp 8 (by omega))
          rw [q0] at eg
          exact off_ (W := W) ((wanted_by (c := true) rfl (by kernel_rfl) eg).trans rfl) rfl
        | false =>
          have eg := (hat 8 52 (of_decide_eq_true (by kernel_rfl)) (by kernel_rfl)).trans (hp 8 (by omega))
          rw [q0] at eg
          refine on_ ((wanted_by (c := false) rfl (by kernel_rfl) eg).trans rfl) ?_
          have e56' := (hat 12 56 (of_decide_eq_true (by kernel_rfl)) (by kernel_rfl)).trans (hp 12 (by omega))
          rw [q0] at e56'
          have e56 : F.eval (.tmp 56) = .bool true := e56'
          have t56 := act_tmp e56
          clear e56'
          have e59' := (hat 15 59 (of_decide_eq_true (by kernel_rfl)) (by kernel_rfl)).trans (hp 15 (by omega))
          rw [q0] at e59'
          have e59 : F.eval (.tmp 59) = .bool (index != 0) := e59'
          have t59 := act_tmp e59
          clear e59'
          clear hat hoff hp
          exact wp_value' (.bool (index != 0)) W (by unfold execOp; go_simp) ⟨_, rfl, rfl, hGW, hrefl W⟩
      | 17 =>
        conv at ho => lhs; whnf; arg 1; whnf
        injection ho with ho
        subst ho
        refine on_ (wanted_none rfl) ?_
        cases qp : (term != 0) with
        | true =>
          have e52' := (hat 8 52 (of_decide_eq_true (by kernel_rfl)) (by kernel_rfl)).trans (hp 8 (by omega))
          have e52 : F.eval (.tmp 52) = .bool (term != 0) := e52'
          have t52 := act_tmp e52
          clear e52'
          rw [qp] at t52
          clear hat hoff hp
          exact wp_value' (.bool true) W (by unfold execOp; go_simp) ⟨_, rfl, rfl, hGW, hrefl W⟩
        | false =>
          have e52' := (hat 8 52 (of_decide_eq_true (by kernel_rfl)) (by kernel_rfl)).trans (hp 8 (by omega))
          have e52 : F.eval (.tmp 52) = .bool (term != 0) := e52'
          have t52 := act_tmp e52
          clear e52'
          rw [qp] at t52
          have e60' := (hat 16 60 (of_decide_eq_true (by kernel_rfl)) (by kernel_rfl)).trans (hp 16 (by omega))
          rw [qp] at e60'
          have e60 : F.eval (.tmp 60) = .bool (index != 0) := e60'
          have t60 := act_tmp e60
          clear e60'
          clear hat hoff hp
          exact wp_value' (.bool (index != 0)) W (by unfold execOp; go_simp) ⟨_, rfl, rfl, hGW, hrefl W⟩
      | 18 =>
        conv at ho => lhs; whnf; arg 1; whnf
        injection ho with ho
        subst ho
        refine on_ (wanted_none rfl) ?_
        have e61' := (hat 17 61 (of_decide_eq_true (by kernel_rfl)) (by kernel_rfl)).trans (hp 17 (by omega))
        have e61 : F.eval (.tmp 61) = .bool ((term != 0) || (index != 0)) := e61'
        have t61 := act_tmp e61
        clear e61'
        exact wp_move' (.tmp 61) rfl ⟨_, rfl, e61, hGW, hrefl W⟩
      | 19 =>
        conv at ho => lhs; whnf; arg 1; whnf
        injection ho with ho
        subst ho
        cases q0 : ((term != 0) || (index != 0)) with
        | true =>
          have eg := (hat 18 62 (of_decide_eq_true (by kernel_rfl)) (by kernel_rfl)).trans (hp 18 (by omega))
          rw [q0] at eg
          exact off_ (W := W) ((wanted_by (c := true) rfl (by kernel_rfl) eg).trans rfl) rfl
        | false =>
          have eg := (hat 18 62 (of_decide_eq_true (by kernel_rfl)) (by kernel_rfl)).trans (hp 18 (by omega))
          rw [q0] at eg
          refine on_ ((wanted_by (c := false) rfl (by kernel_rfl) eg).trans rfl) ?_
          have e4 : F.eval (.tmp 4) = .map (some g) := (hoff 4 (of_decide_eq_true (by kernel_rfl))).trans ha4
          have t4 := act_tmp e4
          exact wp_move' (.tmp 4) rfl ⟨_, rfl, e4, hGW, hrefl W⟩
      | 20 =>
        conv at ho => lhs; whnf; arg 1; whnf
        injection ho with ho
        subst ho
        cases q0 : ((term != 0) || (index != 0)) with
        | true =>
          have eg := (hat 18 62 (of_decide_eq_true (by kernel_rfl)) (by kernel_rfl)).trans (hp 18 (by omega))
          rw [q0] at eg
          exact off_ (W := W) ((wanted_by (c := true) rfl (by kernel_rfl) eg).trans rfl) rfl
        | false =>
          have eg := (hat 18 62 (of_decide_eq_true (by kernel_rfl)) (by kernel_rfl)).trans (hp 18 (by omega))
          rw [q0] at eg
          refine on_ ((wanted_by (c := false) rfl (by kernel_rfl) eg).trans rfl) ?_
          have e63' := (hat 19 63 (of_decide_eq_true (by kernel_rfl)) (by kernel_rfl)).trans (hp 19 (by omega))
          rw [q0] at e63'
          have e63 : F.eval (.tmp 63) = .map (some g) := e63'
          have t63 := act_tmp e63
          clear e63'
          clear hat hoff hp
          have l := HL112.out W hGW.2
          exact wp_value' (.bool false) W (by unfold execOp; go_simp) ⟨_, rfl, rfl, hGW, hrefl W⟩
      | 21 =>
        conv at ho => lhs; whnf; arg 1; whnf
        injection ho with ho
        subst ho
        cases q0 : ((term != 0) || (index != 0)) with
        | true =>
          have eg := (hat 18 62 (of_decide_eq_true (by kernel_rfl)) (by kernel_rfl)).trans (hp 18 (by omega))
          rw [q0] at eg
          exact off_ (W := W) ((wanted_by (c := true) rfl (by kernel_rfl) eg).trans rfl) rfl
        | false =>
          have eg := (hat 18 62 (of_decide_eq_true (by kernel_rfl)) (by kernel_rfl)).trans (hp 18 (by omega))
          rw [q0] at eg
          refine on_ ((wanted_by (c := false) rfl (by kernel_rfl) eg).trans rfl) ?_
          have e64' := (hat 20 64 (of_decide_eq_true (by kernel_rfl)) (by kernel_rfl)).trans (hp 20 (by omega))
          rw [q0] at e64'
          have e64 : F.eval (.tmp 64) = .bool false := e64'
          have t64 := act_tmp e64
          clear e64'
          clear hat hoff hp
          exact wp_value' (.bool true) W (by unfold execOp; go_simp) ⟨_, rfl, rfl, hGW, hrefl W⟩
      | 22 =>
        conv at ho => lhs; whnf; arg 1; whnf
        injection ho with ho
        subst ho
        cases q0 : ((term != 0) || (index != 0)) with
        | true =>
          have eg := (hat 18 62 (of_decide_eq_true (by kernel_rfl)) (by kernel_rfl)).trans (hp 18 (by omega))
          rw [q0] at eg
          exact off_ (W := W) ((wanted_by (c := true) rfl (by kernel_rfl) eg).trans rfl) rfl
        | false =>
          have eg := (hat 18 62 (of_decide_eq_true (by kernel_rfl)) (by kernel_rfl)).trans (hp 18 (by omega))
          rw [q0] at eg
          refine on_ ((wanted_by (c := false) rfl (by kernel_rfl) eg).trans rfl) ?_
          have e65' := (hat 21 65 (of_decide_eq_true (by kernel_rfl)) (by kernel_rfl)).trans (hp 21 (by omega))
          rw [q0] at e65'
          have e65 : F.eval (.tmp 65) = .bool true := e65'
          have t65 := act_tmp e65
          clear e65'
          exact wp_move' (.tmp 65) rfl ⟨_, rfl, e65, hGW, hrefl W⟩
      | 23 =>
        conv at ho => lhs; whnf; arg 1; whnf
        injection ho with ho
        subst ho
        cases q0 : ((term != 0) || (index != 0)) with
        | true =>
          have eg := (hat 22 66 (of_decide_eq_true (by kernel_rfl)) (by kernel_rfl)).trans (hp 22 (by omega))
          rw [q0] at eg
          exact off_ (W := W) (wanted_undef rfl (by kernel_rfl) eg) rfl
        | false =>
          have eg := (hat 22 66 (of_decide_eq_true (by kernel_rfl)) (by kernel_rfl)).trans (hp 22 (by omega))
          rw [q0] at eg
          refine on_ ((wanted_by (c := true) rfl (by kernel_rfl) eg).trans rfl) ?_
          have e1 : F.eval (.tmp 1) = .pointer (some ⟨mb, 0, none⟩) := (hoff 1 (of_decide_eq_true (by kernel_rfl))).trans ha1
          have t1 := act_tmp e1
          clear hat hoff hp
          exact wp_value' (.pointer (some ⟨mb, 3, none⟩)) W (by unfold execOp; go_simp) ⟨_, rfl, rfl, hGW, hrefl W⟩
      | 24 =>
        conv at ho => lhs; whnf; arg 1; whnf
        injection ho with ho
        subst ho
        cases q0 : ((term != 0) || (index != 0)) with
        | true =>
          have eg := (hat 22 66 (of_decide_eq_true (by kernel_rfl)) (by kernel_rfl)).trans (hp 22 (by omega))
          rw [q0] at eg
          exact off_ (W := W) (wanted_undef rfl (by kernel_rfl) eg) rfl
        | false =>
          have eg := (hat 22 66 (of_decide_eq_true (by kernel_rfl)) (by kernel_rfl)).trans (hp 22 (by omega))
          rw [q0] at eg
          refine on_ ((wanted_by (c := true) rfl (by kernel_rfl) eg).trans rfl) ?_
          have e67' := (hat 23 67 (of_decide_eq_true (by kernel_rfl)) (by kernel_rfl)).trans (hp 23 (by omega))
          rw [q0] at e67'
          have e67 : F.eval (.tmp 67) = .pointer (some ⟨mb, 3, none⟩) := e67'
          have t67 := act_tmp e67
          clear e67'
          clear hat hoff hp
          have d := hGW.1.cell 3
          simp at d
          exact wp_value' (.int .i64 prev) W (by unfold execOp; go_simp) ⟨_, rfl, rfl, hGW, hrefl W⟩
      | 25 =>
        conv at ho => lhs; whnf; arg 1; whnf
        injection ho with ho
        subst ho
        cases q0 : ((term != 0) || (index != 0)) with
        | true =>
          have eg := (hat 22 66 (of_decide_eq_true (by kernel_rfl)) (by kernel_rfl)).trans (hp 22 (by omega))
          rw [q0] at eg
          exact off_ (W := W) (wanted_undef rfl (by kernel_rfl) eg) rfl
        | false =>
          have eg := (hat 22 66 (of_decide_eq_true (by kernel_rfl)) (by kernel_rfl)).trans (hp 22 (by omega))
          rw [q0] at eg
          refine on_ ((wanted_by (c := true) rfl (by kernel_rfl) eg).trans rfl) ?_
          have e68' := (hat 24 68 (of_decide_eq_true (by kernel_rfl)) (by kernel_rfl)).trans (hp 24 (by omega))
          rw [q0] at e68'
          have e68 : F.eval (.tmp 68) = .int .i64 prev := e68'
          have t68 := act_tmp e68
          clear e68'
          clear hat hoff hp
          exact wp_value' (.bool (prev != 0)) W (by unfold execOp; go_simp) ⟨_, rfl, rfl, hGW, hrefl W⟩
      | 26 =>
        conv at ho => lhs; whnf; arg 1; whnf
        injection ho with ho
        subst ho
        cases q0 : ((term != 0) || (index != 0)) with
        | true =>
          have eg := (hat 18 62 (of_decide_eq_true (by kernel_rfl)) (by kernel_rfl)).trans (hp 18 (by omega))
          rw [q0] at eg
          exact off_ (W := W) ((wanted_by (c := true) rfl (by kernel_rfl) eg).trans rfl) rfl
        | false =>
          have eg := (hat 18 62 (of_decide_eq_true (by kernel_rfl)) (by kernel_rfl)).trans (hp 18 (by omega))
          rw [q0] at eg
          refine on_ ((wanted_by (c := false) rfl (by kernel_rfl) eg).trans rfl) ?_
          have e66' := (hat 22 66 (of_decide_eq_true (by kernel_rfl)) (by kernel_rfl)).trans (hp 22 (by omega))
          rw [q0] at e66'
          have e66 : F.eval (.tmp 66) = .bool true := e66'
          have t66 := act_tmp e66
          clear e66'
          have e69' := (hat 25 69 (of_decide_eq_true (by kernel_rfl)) (by kernel_rfl)).trans (hp 25 (by omega))
          rw [q0] at e69'
          have e69 : F.eval (.tmp 69) = .bool (prev != 0) := e69'
          have t69 := act_tmp e69
          clear e69'
          clear hat hoff hp
          exact wp_value' (.bool (prev != 0)) W (by unfold execOp; go_simp) ⟨_, rfl, rfl, hGW, hrefl W⟩
      | 27 =>
        conv at ho => lhs; whnf; arg 1; whnf
        injection ho with ho
        subst ho
        refine on_ (wanted_none rfl) ?_
        cases qp : ((term != 0) || (index != 0)) with
        | true =>
          have e62' := (hat 18 62 (of_decide_eq_true (by kernel_rfl)) (by kernel_rfl)).trans (hp 18 (by omega))
          have e62 : F.eval (.tmp 62) = .bool ((term != 0) || (index != 0)) := e62'
          have t62 := act_tmp e62
          clear e62'
          rw [qp] at t62
          clear hat hoff hp
          exact wp_value' (.bool true) W (by unfold execOp; go_simp) ⟨_, rfl, rfl, hGW, hrefl W⟩
        | false =>
          have e62' := (hat 18 62 (of_decide_eq_true (by kernel_rfl)) (by kernel_rfl)).trans (hp 18 (by omega))
          have e62 : F.eval (.tmp 62) = .bool ((term != 0) || (index != 0)) := e62'
          have t62 := act_tmp e62
          clear e62'
          rw [qp] at t62
          have e70' := (hat 26 70 (of_decide_eq_true (by kernel_rfl)) (by kernel_rfl)).trans (hp 26 (by omega))
          rw [qp] at e70'
          have e70 : F.eval (.tmp 70) = .bool (prev != 0) := e70'
          have t70 := act_tmp e70
          clear e70'
          clear hat hoff hp
          exact wp_value' (.bool (prev != 0)) W (by unfold execOp; go_simp) ⟨_, rfl, rfl, hGW, hrefl W⟩
      | 28 =>
        conv at ho => lhs; whnf; arg 1; whnf
        injection ho with ho
        subst ho
        refine on_ (wanted_none rfl) ?_
        have e71' := (hat 27 71 (of_decide_eq_true (by kernel_rfl)) (by kernel_rfl)).trans (hp 27 (by omega))
        have e71 : F.eval (.tmp 71) = .bool (((term != 0) || (index != 0)) || (prev != 0)) := e71'
        have t71 := act_tmp e71
        clear e71'
        exact wp_move' (.tmp 71) rfl ⟨_, rfl, e71, hGW, hrefl W⟩
      | 29 =>
        conv at ho => lhs; whnf; arg 1; whnf
        injection ho with ho
        subst ho
        cases q0 : (((term != 0) || (index != 0)) || (prev != 0)) with
        | true =>
          have eg := (hat 28 72 (of_decide_eq_true (by kernel_rfl)) (by kernel_rfl)).trans (hp 28 (by omega))
          rw [q0] at eg
          exact off_ (W := W) ((wanted_by (c := true) rfl (by kernel_rfl) eg).trans rfl) rfl
        | false =>
          have eg := (hat 28 72 (of_decide_eq_true (by kernel_rfl)) (by kernel_rfl)).trans (hp 28 (by omega))
          rw [q0] at eg
          refine on_ ((wanted_by (c := false) rfl (by kernel_rfl) eg).trans rfl) ?_
          have e4 : F.eval (.tmp 4) = .map (some g) := (hoff 4 (of_decide_eq_true (by kernel_rfl))).trans ha4
          have t4 := act_tmp e4
          exact wp_move' (.tmp 4) rfl ⟨_, rfl, e4, hGW, hrefl W⟩
      | 30 =>
        conv at ho => lhs; whnf; arg 1; whnf
        injection ho with ho
        subst ho
        cases q0 : (((term != 0) || (index != 0)) || (prev != 0)) with
        | true =>
          have eg := (hat 28 72 (of_decide_eq_true (by kernel_rfl)) (by kernel_rfl)).trans (hp 28 (by omega))
          rw [q0] at eg
          exact off_ (W := W) ((wanted_by (c := true) rfl (by kernel_rfl) eg).trans rfl) rfl
        | false =>
          have eg := (hat 28 72 (of_decide_eq_true (by kernel_rfl)) (by kernel_rfl)).trans (hp 28 (by omega))
          rw [q0] at eg
          refine on_ ((wanted_by (c := false) rfl (by kernel_rfl) eg).trans rfl) ?_
          have e73' := (hat 29 73 (of_decide_eq_true (by kernel_rfl)) (by kernel_rfl)).trans (hp 29 (by omega))
          rw [q0] at e73'
          have e73 : F.eval (.tmp 73) = .map (some g) := e73'
          have t73 := act_tmp e73
          clear e73'
          clear hat hoff hp
          have l := HL99.out W hGW.2
          exact wp_value' (.bool false) W (by unfold execOp; go_simp) ⟨_, rfl, rfl, hGW, hrefl W⟩
      | 31 =>
        conv at ho => lhs; whnf; arg 1; whnf
        injection ho with ho
        subst ho
        cases q0 : (((term != 0) || (index != 0)) || (prev != 0)) with
        | true =>
          have eg := (hat 28 72 (of_decide_eq_true (by kernel_rfl)) (by kernel_rfl)).trans (hp 28 (by omega))
          rw [q0] at eg
          exact off_ (W := W) ((wanted_by (c := true) rfl (by kernel_rfl) eg).trans rfl) rfl
        | false =>
          have eg := (hat 28 72 (of_decide_eq_true (by kernel_rfl)) (by kernel_rfl)).trans (hp 28 (by omega))
          rw [q0] at eg
          refine on_ ((wanted_by (c := false) rfl (by kernel_rfl) eg).trans rfl) ?_
          have e74' := (hat 30 74 (of_decide_eq_true (by kernel_rfl)) (by kernel_rfl)).trans (hp 30 (by omega))
          rw [q0] at e74'
          have e74 : F.eval (.tmp 74) = .bool false := e74'
          have t74 := act_tmp e74
          clear e74'
          clear hat hoff hp
          exact wp_value' (.bool true) W (by unfold execOp; go_simp) ⟨_, rfl, rfl, hGW, hrefl W⟩
      | 32 =>
        conv at ho => lhs; whnf; arg 1; whnf
        injection ho with ho
        subst ho
        cases q0 : (((term != 0) || (index != 0)) || (prev != 0)) with
        | true =>
          have eg := (hat 28 72 (of_decide_eq_true (by kernel_rfl)) (by kernel_rfl)).trans (hp 28 (by omega))
          rw [q0] at eg
          exact off_ (W := W) ((wanted_by (c := true) rfl (by kernel_rfl) eg).trans rfl) rfl
        | false =>
          have eg := (hat 28 72 (of_decide_eq_true (by kernel_rfl)) (by kernel_rfl)).trans (hp 28 (by omega))
          rw [q0] at eg
          refine on_ ((wanted_by (c := false) rfl (by kernel_rfl) eg).trans rfl) ?_
          have e75' := (hat 31 75 (of_decide_eq_true (by kernel_rfl)) (by kernel_rfl)).trans (hp 31 (by omega))
          rw [q0] at e75'
          have e75 : F.eval (.tmp 75) = .bool true := e75'
          have t75 := act_tmp e75
          clear e75'
          exact wp_move' (.tmp 75) rfl ⟨_, rfl, e75, hGW, hrefl W⟩
      | 33 =>
        conv at ho => lhs; whnf; arg 1; whnf
        injection ho with ho
        subst ho
        cases q0 : (((term != 0) || (index != 0)) || (prev != 0)) with
        | true =>
          have eg := (hat 32 76 (of_decide_eq_true (by kernel_rfl)) (by kernel_rfl)).trans (hp 32 (by omega))
          rw [q0] at eg
          exact off_ (W := W) (wanted_undef rfl (by kernel_rfl) eg) rfl
        | false =>
          have eg := (hat 32 76 (of_decide_eq_true (by kernel_rfl)) (by kernel_rfl)).trans (hp 32 (by omega))
          rw [q0] at eg
          refine on_ ((wanted_by (c := true) rfl (by kernel_rfl) eg).trans rfl) ?_
          have e1 : F.eval (.tmp 1) = .pointer (some ⟨mb, 0, none⟩) := (hoff 1 (of_decide_eq_true (by kernel_rfl))).trans ha1
          have t1 := act_tmp e1
          clear hat hoff hp
          exact wp_value' (.pointer (some ⟨mb, 4, none⟩)) W (by unfold execOp; go_simp) ⟨_, rfl, rfl, hGW, hrefl W⟩
      | 34 =>
        conv at ho => lhs; whnf; arg 1; whnf
        injection ho with ho
        subst ho
        cases q0 : (((term != 0) || (index != 0)) || (prev != 0)) with
        | true =>
          have eg := (hat 32 76 (of_decide_eq_true (by kernel_rfl)) (by kernel_rfl)).trans (hp 32 (by omega))
          rw [q0] at eg
          exact off_ (W := W) (wanted_undef rfl (by kernel_rfl) eg) rfl
        | false =>
          have eg := (hat 32 76 (of_decide_eq_true (by kernel_rfl)) (by kernel_rfl)).trans (hp 32 (by omega))
          rw [q0] at eg
          refine on_ ((wanted_by (c := true) rfl (by kernel_rfl) eg).trans rfl) ?_
          have e77' := (hat 33 77 (of_decide_eq_true (by kernel_rfl)) (by kernel_rfl)).trans (hp 33 (by omega))
          rw [q0] at e77'
          have e77 : F.eval (.tmp 77) = .pointer (some ⟨mb, 4, none⟩) := e77'
          have t77 := act_tmp e77
          clear e77'
          clear hat hoff hp
          have d := hGW.1.cell 4
          simp at d
          exact wp_value' (.int .i64 commit) W (by unfold execOp; go_simp) ⟨_, rfl, rfl, hGW, hrefl W⟩
      | 35 =>
        conv at ho => lhs; whnf; arg 1; whnf
        injection ho with ho
        subst ho
        cases q0 : (((term != 0) || (index != 0)) || (prev != 0)) with
        | true =>
          have eg := (hat 32 76 (of_decide_eq_true (by kernel_rfl)) (by kernel_rfl)).trans (hp 32 (by omega))
          rw [q0] at eg
          exact off_ (W := W) (wanted_undef rfl (by kernel_rfl) eg) rfl
        | false =>
          have eg := (hat 32 76 (of_decide_eq_true (by kernel_rfl)) (by kernel_rfl)).trans (hp 32 (by omega))
          rw [q0] at eg
          refine on_ ((wanted_by (c := true) rfl (by kernel_rfl) eg).trans rfl) ?_
          have e78' := (hat 34 78 (of_decide_eq_true (by kernel_rfl)) (by kernel_rfl)).trans (hp 34 (by omega))
          rw [q0] at e78'
          have e78 : F.eval (.tmp 78) = .int .i64 commit := e78'
          have t78 := act_tmp e78
          clear e78'
          clear hat hoff hp
          exact wp_value' (.bool (commit != 0)) W (by unfold execOp; go_simp) ⟨_, rfl, rfl, hGW, hrefl W⟩
      | 36 =>
        conv at ho => lhs; whnf; arg 1; whnf
        injection ho with ho
        subst ho
        cases q0 : (((term != 0) || (index != 0)) || (prev != 0)) with
        | true =>
          have eg := (hat 28 72 (of_decide_eq_true (by kernel_rfl)) (by kernel_rfl)).trans (hp 28 (by omega))
          rw [q0] at eg
          exact off_ (W := W) ((wanted_by (c := true) rfl (by kernel_rfl) eg).trans rfl) rfl
        | false =>
          have eg := (hat 28 72 (of_decide_eq_true (by kernel_rfl)) (by kernel_rfl)).trans (hp 28 (by omega))
          rw [q0] at eg
          refine on_ ((wanted_by (c := false) rfl (by kernel_rfl) eg).trans rfl) ?_
          have e76' := (hat 32 76 (of_decide_eq_true (by kernel_rfl)) (by kernel_rfl)).trans (hp 32 (by omega))
          rw [q0] at e76'
          have e76 : F.eval (.tmp 76) = .bool true := e76'
          have t76 := act_tmp e76
          clear e76'
          have e79' := (hat 35 79 (of_decide_eq_true (by kernel_rfl)) (by kernel_rfl)).trans (hp 35 (by omega))
          rw [q0] at e79'
          have e79 : F.eval (.tmp 79) = .bool (commit != 0) := e79'
          have t79 := act_tmp e79
          clear e79'
          clear hat hoff hp
          exact wp_value' (.bool (commit != 0)) W (by unfold execOp; go_simp) ⟨_, rfl, rfl, hGW, hrefl W⟩
      | 37 =>
        conv at ho => lhs; whnf; arg 1; whnf
        injection ho with ho
        subst ho
        refine on_ (wanted_none rfl) ?_
        cases qp : (((term != 0) || (index != 0)) || (prev != 0)) with
        | true =>
          have e72' := (hat 28 72 (of_decide_eq_true (by kernel_rfl)) (by kernel_rfl)).trans (hp 28 (by omega))
          have e72 : F.eval (.tmp 72) = .bool (((term != 0) || (index != 0)) || (prev != 0)) := e72'
          have t72 := act_tmp e72
          clear e72'
          rw [qp] at t72
          clear hat hoff hp
          exact wp_value' (.bool true) W (by unfold execOp; go_simp) ⟨_, rfl, rfl, hGW, hrefl W⟩
        | false =>
          have e72' := (hat 28 72 (of_decide_eq_true (by kernel_rfl)) (by kernel_rfl)).trans (hp 28 (by omega))
          have e72 : F.eval (.tmp 72) = .bool (((term != 0) || (index != 0)) || (prev != 0)) := e72'
          have t72 := act_tmp e72
          clear e72'
          rw [qp] at t72
          have e80' := (hat 36 80 (of_decide_eq_true (by kernel_rfl)) (by kernel_rfl)).trans (hp 36 (by omega))
          rw [qp] at e80'
          have e80 : F.eval (.tmp 80) = .bool (commit != 0) := e80'
          have t80 := act_tmp e80
          clear e80'
          clear hat hoff hp
          exact wp_value' (.bool (commit != 0)) W (by unfold execOp; go_simp) ⟨_, rfl, rfl, hGW, hrefl W⟩
      | 38 =>
        conv at ho => lhs; whnf; arg 1; whnf
        injection ho with ho
        subst ho
        refine on_ (wanted_none rfl) ?_
        have e81' := (hat 37 81 (of_decide_eq_true (by kernel_rfl)) (by kernel_rfl)).trans (hp 37 (by omega))
        have e81 : F.eval (.tmp 81) = .bool ((((term != 0) || (index != 0)) || (prev != 0)) || (commit != 0)) := e81'
        have t81 := act_tmp e81
        clear e81'
        exact wp_move' (.tmp 81) rfl ⟨_, rfl, e81, hGW, hrefl W⟩
      | 39 =>
        conv at ho => lhs; whnf; arg 1; whnf
        injection ho with ho
        subst ho
        cases q0 : ((((term != 0) || (index != 0)) || (prev != 0)) || (commit != 0)) with
        | true =>
          have eg := (hat 38 82 (of_decide_eq_true (by kernel_rfl)) (by kernel_rfl)).trans (hp 38 (by omega))
          rw [q0] at eg
          exact off_ (W := W) ((wanted_by (c := true) rfl (by kernel_rfl) eg).trans rfl) rfl
        | false =>
          have eg := (hat 38 82 (of_decide_eq_true (by kernel_rfl)) (by kernel_rfl)).trans (hp 38 (by omega))
          rw [q0] at eg
          refine on_ ((wanted_by (c := false) rfl (by kernel_rfl) eg).trans rfl) ?_
          have e4 : F.eval (.tmp 4) = .map (some g) := (hoff 4 (of_decide_eq_true (by kernel_rfl))).trans ha4
          have t4 := act_tmp e4
          exact wp_move' (.tmp 4) rfl ⟨_, rfl, e4, hGW, hrefl W⟩
      | 40 =>
        conv at ho => lhs; whnf; arg 1; whnf
        injection ho with ho
        subst ho
        cases q0 : ((((term != 0) || (index != 0)) || (prev != 0)) || (commit != 0)) with
        | true =>
          have eg := (hat 38 82 (of_decide_eq_true (by kernel_rfl)) (by kernel_rfl)).trans (hp 38 (by omega))
          rw [q0] at eg
          exact off_ (W := W) ((wanted_by (c := true) rfl (by kernel_rfl) eg).trans rfl) rfl
        | false =>
          have eg := (hat 38 82 (of_decide_eq_true (by kernel_rfl)) (by kernel_rfl)).trans (hp 38 (by omega))
          rw [q0] at eg
          refine on_ ((wanted_by (c := false) rfl (by kernel_rfl) eg).trans rfl) ?_
          have e83' := (hat 39 83 (of_decide_eq_true (by kernel_rfl)) (by kernel_rfl)).trans (hp 39 (by omega))
          rw [q0] at e83'
          have e83 : F.eval (.tmp 83) = .map (some g) := e83'
          have t83 := act_tmp e83
          clear e83'
          clear hat hoff hp
          have l := HL103.out W hGW.2
          exact wp_value' (.bool true) W (by unfold execOp; go_simp) ⟨_, rfl, rfl, hGW, hrefl W⟩
      | 41 =>
        conv at ho => lhs; whnf; arg 1; whnf
        injection ho with ho
        subst ho
        cases q0 : ((((term != 0) || (index != 0)) || (prev != 0)) || (commit != 0)) with
        | true =>
          have eg := (hat 38 82 (of_decide_eq_true (by kernel_rfl)) (by kernel_rfl)).trans (hp 38 (by omega))
          rw [q0] at eg
          exact off_ (W := W) ((wanted_by (c := true) rfl (by kernel_rfl) eg).trans rfl) rfl
        | false =>
          have eg := (hat 38 82 (of_decide_eq_true (by kernel_rfl)) (by kernel_rfl)).trans (hp 38 (by omega))
          rw [q0] at eg
          refine on_ ((wanted_by (c := false) rfl (by kernel_rfl) eg).trans rfl) ?_
          have e84' := (hat 40 84 (of_decide_eq_true (by kernel_rfl)) (by kernel_rfl)).trans (hp 40 (by omega))
          rw [q0] at e84'
          have e84 : F.eval (.tmp 84) = .bool true := e84'
          have t84 := act_tmp e84
          clear e84'
          clear hat hoff hp
          exact wp_value' (.bool false) W (by unfold execOp; go_simp) ⟨_, rfl, rfl, hGW, hrefl W⟩
      | 42 =>
        conv at ho => lhs; whnf; arg 1; whnf
        injection ho with ho
        subst ho
        cases q0 : ((((term != 0) || (index != 0)) || (prev != 0)) || (commit != 0)) with
        | true =>
          have eg := (hat 38 82 (of_decide_eq_true (by kernel_rfl)) (by kernel_rfl)).trans (hp 38 (by omega))
          rw [q0] at eg
          exact off_ (W := W) ((wanted_by (c := true) rfl (by kernel_rfl) eg).trans rfl) rfl
        | false =>
          have eg := (hat 38 82 (of_decide_eq_true (by kernel_rfl)) (by kernel_rfl)).trans (hp 38 (by omega))
          rw [q0] at eg
          refine on_ ((wanted_by (c := false) rfl (by kernel_rfl) eg).trans rfl) ?_
          have e85' := (hat 41 85 (of_decide_eq_true (by kernel_rfl)) (by kernel_rfl)).trans (hp 41 (by omega))
          rw [q0] at e85'
          have e85 : F.eval (.tmp 85) = .bool false := e85'
          have t85 := act_tmp e85
          clear e85'
          exact wp_move' (.tmp 85) rfl ⟨_, rfl, e85, hGW, hrefl W⟩
      | 43 =>
        conv at ho => lhs; whnf; arg 1; whnf
        injection ho with ho
        subst ho
        cases q0 : ((((term != 0) || (index != 0)) || (prev != 0)) || (commit != 0)) with
        | true =>
          have eg := (hat 42 86 (of_decide_eq_true (by kernel_rfl)) (by kernel_rfl)).trans (hp 42 (by omega))
          rw [q0] at eg
          exact off_ (W := W) (wanted_undef rfl (by kernel_rfl) eg) rfl
        | false =>
          have eg := (hat 42 86 (of_decide_eq_true (by kernel_rfl)) (by kernel_rfl)).trans (hp 42 (by omega))
          rw [q0] at eg
          exact off_ (W := W) ((wanted_by (c := false) rfl (by kernel_rfl) eg).trans rfl) rfl
      | 44 =>
        conv at ho => lhs; whnf; arg 1; whnf
        injection ho with ho
        subst ho
        cases q0 : ((((term != 0) || (index != 0)) || (prev != 0)) || (commit != 0)) with
        | true =>
          have eg := (hat 42 86 (of_decide_eq_true (by kernel_rfl)) (by kernel_rfl)).trans (hp 42 (by omega))
          rw [q0] at eg
          exact off_ (W := W) (wanted_undef rfl (by kernel_rfl) eg) rfl
        | false =>
          have eg := (hat 42 86 (of_decide_eq_true (by kernel_rfl)) (by kernel_rfl)).trans (hp 42 (by omega))
          rw [q0] at eg
          exact off_ (W := W) ((wanted_by (c := false) rfl (by kernel_rfl) eg).trans rfl) rfl
      | 45 =>
        conv at ho => lhs; whnf; arg 1; whnf
        injection ho with ho
        subst ho
        cases q0 : ((((term != 0) || (index != 0)) || (prev != 0)) || (commit != 0)) with
        | true =>
          have eg := (hat 38 82 (of_decide_eq_true (by kernel_rfl)) (by kernel_rfl)).trans (hp 38 (by omega))
          rw [q0] at eg
          exact off_ (W := W) ((wanted_by (c := true) rfl (by kernel_rfl) eg).trans rfl) rfl
        | false =>
          have eg := (hat 38 82 (of_decide_eq_true (by kernel_rfl)) (by kernel_rfl)).trans (hp 38 (by omega))
          rw [q0] at eg
          refine on_ ((wanted_by (c := false) rfl (by kernel_rfl) eg).trans rfl) ?_
          have e86' := (hat 42 86 (of_decide_eq_true (by kernel_rfl)) (by kernel_rfl)).trans (hp 42 (by omega))
          rw [q0] at e86'
          have e86 : F.eval (.tmp 86) = .bool false := e86'
          have t86 := act_tmp e86
          clear e86'
          clear hat hoff hp
          exact wp_value' (.bool false) W (by unfold execOp; go_simp) ⟨_, rfl, rfl, hGW, hrefl W⟩
      | 46 =>
        conv at ho => lhs; whnf; arg 1; whnf
        injection ho with ho
        subst ho
        refine on_ (wanted_none rfl) ?_
        cases qp : ((((term != 0) || (index != 0)) || (prev != 0)) || (commit != 0)) with
        | true =>
          have e82' := (hat 38 82 (of_decide_eq_true (by kernel_rfl)) (by kernel_rfl)).trans (hp 38 (by omega))
          have e82 : F.eval (.tmp 82) = .bool ((((term != 0) || (index != 0)) || (prev != 0)) || (commit != 0)) := e82'
          have t82 := act_tmp e82
          clear e82'
          rw [qp] at t82
          clear hat hoff hp
          exact wp_value' (.bool true) W (by unfold execOp; go_simp) ⟨_, rfl, rfl, hGW, hrefl W⟩
        | false =>
          have e82' := (hat 38 82 (of_decide_eq_true (by kernel_rfl)) (by kernel_rfl)).trans (hp 38 (by omega))
          have e82 : F.eval (.tmp 82) = .bool ((((term != 0) || (index != 0)) || (prev != 0)) || (commit != 0)) := e82'
          have t82 := act_tmp e82
          clear e82'
          rw [qp] at t82
          have e89' := (hat 45 89 (of_decide_eq_true (by kernel_rfl)) (by kernel_rfl)).trans (hp 45 (by omega))
          rw [qp] at e89'
          have e89 : F.eval (.tmp 89) = .bool false := e89'
          have t89 := act_tmp e89
          clear e89'
          clear hat hoff hp
          exact wp_value' (.bool false) W (by unfold execOp; go_simp) ⟨_, rfl, rfl, hGW, hrefl W⟩
      | 47 =>
        conv at ho => lhs; whnf; arg 1; whnf
        injection ho with ho
        subst ho
        refine on_ (wanted_none rfl) ?_
        have e90' := (hat 46 90 (of_decide_eq_true (by kernel_rfl)) (by kernel_rfl)).trans (hp 46 (by omega))
        have e90 : F.eval (.tmp 90) = .bool ((((term != 0) || (index != 0)) || (prev != 0)) || (commit != 0)) := e90'
        have t90 := act_tmp e90
        clear e90'
        exact wp_move' (.tmp 90) rfl ⟨_, rfl, e90, hGW, hrefl W⟩
      | 48 =>
        conv at ho => lhs; whnf; arg 1; whnf
        injection ho with ho
        subst ho
        cases q0 : ((((term != 0) || (index != 0)) || (prev != 0)) || (commit != 0)) with
        | true =>
          have eg := (hat 47 91 (of_decide_eq_true (by kernel_rfl)) (by kernel_rfl)).trans (hp 47 (by omega))
          rw [q0] at eg
          exact off_ (W := W) ((wanted_by (c := true) rfl (by kernel_rfl) eg).trans rfl) rfl
        | false =>
          have eg := (hat 47 91 (of_decide_eq_true (by kernel_rfl)) (by kernel_rfl)).trans (hp 47 (by omega))
          rw [q0] at eg
          refine on_ ((wanted_by (c := false) rfl (by kernel_rfl) eg).trans rfl) ?_
          have e4 : F.eval (.tmp 4) = .map (some g) := (hoff 4 (of_decide_eq_true (by kernel_rfl))).trans ha4
          have t4 := act_tmp e4
          exact wp_move' (.tmp 4) rfl ⟨_, rfl, e4, hGW, hrefl W⟩
      | 49 =>
        conv at ho => lhs; whnf; arg 1; whnf
        injection ho with ho
        subst ho
        cases q0 : ((((term != 0) || (index != 0)) || (prev != 0)) || (commit != 0)) with
        | true =>
          have eg := (hat 47 91 (of_decide_eq_true (by kernel_rfl)) (by kernel_rfl)).trans (hp 47 (by omega))
          rw [q0] at eg
          exact off_ (W := W) ((wanted_by (c := true) rfl (by kernel_rfl) eg).trans rfl) rfl
        | false =>
          have eg := (hat 47 91 (of_decide_eq_true (by kernel_rfl)) (by kernel_rfl)).trans (hp 47 (by omega))
          rw [q0] at eg
          refine on_ ((wanted_by (c := false) rfl (by kernel_rfl) eg).trans rfl) ?_
          have e92' := (hat 48 92 (of_decide_eq_true (by kernel_rfl)) (by kernel_rfl)).trans (hp 48 (by omega))
          rw [q0] at e92'
          have e92 : F.eval (.tmp 92) = .map (some g) := e92'
          have t92 := act_tmp e92
          clear e92'
          clear hat hoff hp
          have l := HL101.out W hGW.2
          exact wp_value' (.bool false) W (by unfold execOp; go_simp) ⟨_, rfl, rfl, hGW, hrefl W⟩
      | 50 =>
        conv at ho => lhs; whnf; arg 1; whnf
        injection ho with ho
        subst ho
        cases q0 : ((((term != 0) || (index != 0)) || (prev != 0)) || (commit != 0)) with
        | true =>
          have eg := (hat 47 91 (of_decide_eq_true (by kernel_rfl)) (by kernel_rfl)).trans (hp 47 (by omega))
          rw [q0] at eg
          exact off_ (W := W) ((wanted_by (c := true) rfl (by kernel_rfl) eg).trans rfl) rfl
        | false =>
          have eg := (hat 47 91 (of_decide_eq_true (by kernel_rfl)) (by kernel_rfl)).trans (hp 47 (by omega))
          rw [q0] at eg
          refine on_ ((wanted_by (c := false) rfl (by kernel_rfl) eg).trans rfl) ?_
          have e93' := (hat 49 93 (of_decide_eq_true (by kernel_rfl)) (by kernel_rfl)).trans (hp 49 (by omega))
          rw [q0] at e93'
          have e93 : F.eval (.tmp 93) = .bool false := e93'
          have t93 := act_tmp e93
          clear e93'
          clear hat hoff hp
          exact wp_value' (.bool true) W (by unfold execOp; go_simp) ⟨_, rfl, rfl, hGW, hrefl W⟩
      | 51 =>
        conv at ho => lhs; whnf; arg 1; whnf
        injection ho with ho
        subst ho
        cases q0 : ((((term != 0) || (index != 0)) || (prev != 0)) || (commit != 0)) with
        | true =>
          have eg := (hat 47 91 (of_decide_eq_true (by kernel_rfl)) (by kernel_rfl)).trans (hp 47 (by omega))
          rw [q0] at eg
          exact off_ (W := W) ((wanted_by (c := true) rfl (by kernel_rfl) eg).trans rfl) rfl
        | false =>
          have eg := (hat 47 91 (of_decide_eq_true (by kernel_rfl)) (by kernel_rfl)).trans (hp 47 (by omega))
          rw [q0] at eg
          refine on_ ((wanted_by (c := false) rfl (by kernel_rfl) eg).trans rfl) ?_
          have e94' := (hat 50 94 (of_decide_eq_true (by kernel_rfl)) (by kernel_rfl)).trans (hp 50 (by omega))
          rw [q0] at e94'
          have e94 : F.eval (.tmp 94) = .bool true := e94'
          have t94 := act_tmp e94
          clear e94'
          exact wp_move' (.tmp 94) rfl ⟨_, rfl, e94, hGW, hrefl W⟩
      | 52 =>
        conv at ho => lhs; whnf; arg 1; whnf
        injection ho with ho
        subst ho
        cases q0 : ((((term != 0) || (index != 0)) || (prev != 0)) || (commit != 0)) with
        | true =>
          have eg := (hat 51 95 (of_decide_eq_true (by kernel_rfl)) (by kernel_rfl)).trans (hp 51 (by omega))
          rw [q0] at eg
          exact off_ (W := W) (wanted_undef rfl (by kernel_rfl) eg) rfl
        | false =>
          have eg := (hat 51 95 (of_decide_eq_true (by kernel_rfl)) (by kernel_rfl)).trans (hp 51 (by omega))
          rw [q0] at eg
          refine on_ ((wanted_by (c := true) rfl (by kernel_rfl) eg).trans rfl) ?_
          have e1 : F.eval (.tmp 1) = .pointer (some ⟨mb, 0, none⟩) := (hoff 1 (of_decide_eq_true (by kernel_rfl))).trans ha1
          have t1 := act_tmp e1
          clear hat hoff hp
          exact wp_value' (.pointer (some ⟨mb, 6, none⟩)) W (by unfold execOp; go_simp) ⟨_, rfl, rfl, hGW, hrefl W⟩
      | 53 =>
        conv at ho => lhs; whnf; arg 1; whnf
        injection ho with ho
        subst ho
        cases q0 : ((((term != 0) || (index != 0)) || (prev != 0)) || (commit != 0)) with
        | true =>
          have eg := (hat 51 95 (of_decide_eq_true (by kernel_rfl)) (by kernel_rfl)).trans (hp 51 (by omega))
          rw [q0] at eg
          exact off_ (W := W) (wanted_undef rfl (by kernel_rfl) eg) rfl
        | false =>
          have eg := (hat 51 95 (of_decide_eq_true (by kernel_rfl)) (by kernel_rfl)).trans (hp 51 (by omega))
          rw [q0] at eg
          refine on_ ((wanted_by (c := true) rfl (by kernel_rfl) eg).trans rfl) ?_
          have e96' := (hat 52 96 (of_decide_eq_true (by kernel_rfl)) (by kernel_rfl)).trans (hp 52 (by omega))
          rw [q0] at e96'
          have e96 : F.eval (.tmp 96) = .pointer (some ⟨mb, 6, none⟩) := e96'
          have t96 := act_tmp e96
          clear e96'
          clear hat hoff hp
          have d := hGW.1.cell 6
          simp at d
          exact wp_value' (.slice eA en ec) W (by unfold execOp; go_simp) ⟨_, rfl, rfl, hGW, hrefl W⟩
      | 54 =>
        conv at ho => lhs; whnf; arg 1; whnf
        injection ho with ho
        subst ho
        cases q0 : ((((term != 0) || (index != 0)) || (prev != 0)) || (commit != 0)) with
        | true =>
          have eg := (hat 51 95 (of_decide_eq_true (by kernel_rfl)) (by kernel_rfl)).trans (hp 51 (by omega))
          rw [q0] at eg
          exact off_ (W := W) (wanted_undef rfl (by kernel_rfl) eg) rfl
        | false =>
          have eg := (hat 51 95 (of_decide_eq_true (by kernel_rfl)) (by kernel_rfl)).trans (hp 51 (by omega))
          rw [q0] at eg
          refine on_ ((wanted_by (c := true) rfl (by kernel_rfl) eg).trans rfl) ?_
          have e97' := (hat 53 97 (of_decide_eq_true (by kernel_rfl)) (by kernel_rfl)).trans (hp 53 (by omega))
          rw [q0] at e97'
          have e97 : F.eval (.tmp 97) = .slice eA en ec := e97'
          have t97 := act_tmp e97
          clear e97'
          clear hat hoff hp
          exact wp_value' (.int .i64 (en : Nat)) W (by unfold execOp; go_simp) ⟨_, rfl, rfl, hGW, hrefl W⟩
      | 55 =>
        conv at ho => lhs; whnf; arg 1; whnf
        injection ho with ho
        subst ho
        cases q0 : ((((term != 0) || (index != 0)) || (prev != 0)) || (commit != 0)) with
        | true =>
          have eg := (hat 51 95 (of_decide_eq_true (by kernel_rfl)) (by kernel_rfl)).trans (hp 51 (by omega))
          rw [q0] at eg
          exact off_ (W := W) (wanted_undef rfl (by kernel_rfl) eg) rfl
        | false =>
          have eg := (hat 51 95 (of_decide_eq_true (by kernel_rfl)) (by kernel_rfl)).trans (hp 51 (by omega))
          rw [q0] at eg
          refine on_ ((wanted_by (c := true) rfl (by kernel_rfl) eg).trans rfl) ?_
          have e98' := (hat 54 98 (of_decide_eq_true (by kernel_rfl)) (by kernel_rfl)).trans (hp 54 (by omega))
          rw [q0] at e98'
          have e98 : F.eval (.tmp 98) = .int .i64 (en : Nat) := e98'
          have t98 := act_tmp e98
          clear e98'
          clear hat hoff hp
          exact wp_value' (.bool (decide ((0 : Int) < (en : Nat)))) W (by unfold execOp; go_simp) ⟨_, rfl, rfl, hGW, hrefl W⟩
      | 56 =>
        conv at ho => lhs; whnf; arg 1; whnf
        injection ho with ho
        subst ho
        cases q0 : ((((term != 0) || (index != 0)) || (prev != 0)) || (commit != 0)) with
        | true =>
          have eg := (hat 47 91 (of_decide_eq_true (by kernel_rfl)) (by kernel_rfl)).trans (hp 47 (by omega))
          rw [q0] at eg
          exact off_ (W := W) ((wanted_by (c := true) rfl (by kernel_rfl) eg).trans rfl) rfl
        | false =>
          have eg := (hat 47 91 (of_decide_eq_true (by kernel_rfl)) (by kernel_rfl)).trans (hp 47 (by omega))
          rw [q0] at eg
          refine on_ ((wanted_by (c := false) rfl (by kernel_rfl) eg).trans rfl) ?_
          have e95' := (hat 51 95 (of_decide_eq_true (by kernel_rfl)) (by kernel_rfl)).trans (hp 51 (by omega))
          rw [q0] at e95'
          have e95 : F.eval (.tmp 95) = .bool true := e95'
          have t95 := act_tmp e95
          clear e95'
          have e99' := (hat 55 99 (of_decide_eq_true (by kernel_rfl)) (by kernel_rfl)).trans (hp 55 (by omega))
          rw [q0] at e99'
          have e99 : F.eval (.tmp 99) = .bool (decide ((0 : Int) < (en : Nat))) := e99'
          have t99 := act_tmp e99
          clear e99'
          clear hat hoff hp
          exact wp_value' (.bool (decide ((0 : Int) < (en : Nat)))) W (by unfold execOp; go_simp) ⟨_, rfl, rfl, hGW, hrefl W⟩
      | 57 =>
        conv at ho => lhs; whnf; arg 1; whnf
        injection ho with ho
        subst ho
        refine on_ (wanted_none rfl) ?_
        cases qp : ((((term != 0) || (index != 0)) || (prev != 0)) || (commit != 0)) with
        | true =>
          have e91' := (hat 47 91 (of_decide_eq_true (by kernel_rfl)) (by kernel_rfl)).trans (hp 47 (by omega))
          have e91 : F.eval (.tmp 91) = .bool ((((term != 0) || (index != 0)) || (prev != 0)) || (commit != 0)) := e91'
          have t91 := act_tmp e91
          clear e91'
          rw [qp] at t91
          clear hat hoff hp
          exact wp_value' (.bool true) W (by unfold execOp; go_simp) ⟨_, rfl, rfl, hGW, hrefl W⟩
        | false =>
          have e91' := (hat 47 91 (of_decide_eq_true (by kernel_rfl)) (by kernel_rfl)).trans (hp 47 (by omega))
          have e91 : F.eval (.tmp 91) = .bool ((((term != 0) || (index != 0)) || (prev != 0)) || (commit != 0)) := e91'
          have t91 := act_tmp e91
          clear e91'
          rw [qp] at t91
          have e100' := (hat 56 100 (of_decide_eq_true (by kernel_rfl)) (by kernel_rfl)).trans (hp 56 (by omega))
          rw [qp] at e100'
          have e100 : F.eval (.tmp 100) = .bool (decide ((0 : Int) < (en : Nat))) := e100'
          have t100 := act_tmp e100
          clear e100'
          clear hat hoff hp
          exact wp_value' (.bool (decide ((0 : Int) < (en : Nat)))) W (by unfold execOp; go_simp) ⟨_, rfl, rfl, hGW, hrefl W⟩
      | 58 =>
        conv at ho => lhs; whnf; arg 1; whnf
        injection ho with ho
        subst ho
        refine on_ (wanted_none rfl) ?_
        have e101' := (hat 57 101 (of_decide_eq_true (by kernel_rfl)) (by kernel_rfl)).trans (hp 57 (by omega))
        have e101 : F.eval (.tmp 101) = .bool (((((term != 0) || (index != 0)) || (prev != 0)) || (commit != 0)) || (decide ((0 : Int) < (en : Nat)))) := e101'
        have t101 := act_tmp e101
        clear e101'
        exact wp_move' (.tmp 101) rfl ⟨_, rfl, e101, hGW, hrefl W⟩
      | 59 =>
        conv at ho => lhs; whnf; arg 1; whnf
        injection ho with ho
        subst ho
        cases q0 : (((((term != 0) || (index != 0)) || (prev != 0)) || (commit != 0)) || (decide ((0 : Int) < (en : Nat)))) with
        | true =>
          have eg := (hat 58 102 (of_decide_eq_true (by kernel_rfl)) (by kernel_rfl)).trans (hp 58 (by omega))
          rw [q0] at eg
          exact off_ (W := W) ((wanted_by (c := true) rfl (by kernel_rfl) eg).trans rfl) rfl
        | false =>
          have eg := (hat 58 102 (of_decide_eq_true (by kernel_rfl)) (by kernel_rfl)).trans (hp 58 (by omega))
          rw [q0] at eg
          refine on_ ((wanted_by (c := false) rfl (by kernel_rfl) eg).trans rfl) ?_
          have e4 : F.eval (.tmp 4) = .map (some g) := (hoff 4 (of_decide_eq_true (by kernel_rfl))).trans ha4
          have t4 := act_tmp e4
          exact wp_move' (.tmp 4) rfl ⟨_, rfl, e4, hGW, hrefl W⟩
      | 60 =>
        conv at ho => lhs; whnf; arg 1; whnf
        injection ho with ho
        subst ho
        cases q0 : (((((term != 0) || (index != 0)) || (prev != 0)) || (commit != 0)) || (decide ((0 : Int) < (en : Nat)))) with
        | true =>
          have eg := (hat 58 102 (of_decide_eq_true (by kernel_rfl)) (by kernel_rfl)).trans (hp 58 (by omega))
          rw [q0] at eg
          exact off_ (W := W) ((wanted_by (c := true) rfl (by kernel_rfl) eg).trans rfl) rfl
        | false =>
          have eg := (hat 58 102 (of_decide_eq_true (by kernel_rfl)) (by kernel_rfl)).trans (hp 58 (by omega))
          rw [q0] at eg
          refine on_ ((wanted_by (c := false) rfl (by kernel_rfl) eg).trans rfl) ?_
          have e103' := (hat 59 103 (of_decide_eq_true (by kernel_rfl)) (by kernel_rfl)).trans (hp 59 (by omega))
          rw [q0] at e103'
          have e103 : F.eval (.tmp 103) = .map (some g) := e103'
          have t103 := act_tmp e103
          clear e103'
          clear hat hoff hp
          have l := HL100.out W hGW.2
          exact wp_value' (.bool false) W (by unfold execOp; go_simp) ⟨_, rfl, rfl, hGW, hrefl W⟩
      | 61 =>
        conv at ho => lhs; whnf; arg 1; whnf
        injection ho with ho
        subst ho
        cases q0 : (((((term != 0) || (index != 0)) || (prev != 0)) || (commit != 0)) || (decide ((0 : Int) < (en : Nat)))) with
        | true =>
          have eg := (hat 58 102 (of_decide_eq_true (by kernel_rfl)) (by kernel_rfl)).trans (hp 58 (by omega))
          rw [q0] at eg
          exact off_ (W := W) ((wanted_by (c := true) rfl (by kernel_rfl) eg).trans rfl) rfl
        | false =>
          have eg := (hat 58 102 (of_decide_eq_true (by kernel_rfl)) (by kernel_rfl)).trans (hp 58 (by omega))
          rw [q0] at eg
          refine on_ ((wanted_by (c := false) rfl (by kernel_rfl) eg).trans rfl) ?_
          have e104' := (hat 60 104 (of_decide_eq_true (by kernel_rfl)) (by kernel_rfl)).trans (hp 60 (by omega))
          rw [q0] at e104'
          have e104 : F.eval (.tmp 104) = .bool false := e104'
          have t104 := act_tmp e104
          clear e104'
          clear hat hoff hp
          exact wp_value' (.bool true) W (by unfold execOp; go_simp) ⟨_, rfl, rfl, hGW, hrefl W⟩
      | 62 =>
        conv at ho => lhs; whnf; arg 1; whnf
        injection ho with ho
        subst ho
        cases q0 : (((((term != 0) || (index != 0)) || (prev != 0)) || (commit != 0)) || (decide ((0 : Int) < (en : Nat)))) with
        | true =>
          have eg := (hat 58 102 (of_decide_eq_true (by kernel_rfl)) (by kernel_rfl)).trans (hp 58 (by omega))
          rw [q0] at eg
          exact off_ (W := W) ((wanted_by (c := true) rfl (by kernel_rfl) eg).trans rfl) rfl
        | false =>
          have eg := (hat 58 102 (of_decide_eq_true (by kernel_rfl)) (by kernel_rfl)).trans (hp 58 (by omega))
          rw [q0] at eg
          refine on_ ((wanted_by (c := false) rfl (by kernel_rfl) eg).trans rfl) ?_
          have e105' := (hat 61 105 (of_decide_eq_true (by kernel_rfl)) (by kernel_rfl)).trans (hp 61 (by omega))
          rw [q0] at e105'
          have e105 : F.eval (.tmp 105) = .bool true := e105'
          have t105 := act_tmp e105
          clear e105'
          exact wp_move' (.tmp 105) rfl ⟨_, rfl, e105, hGW, hrefl W⟩
      | 63 =>
        conv at ho => lhs; whnf; arg 1; whnf
        injection ho with ho
        subst ho
        cases q0 : (((((term != 0) || (index != 0)) || (prev != 0)) || (commit != 0)) || (decide ((0 : Int) < (en : Nat)))) with
        | true =>
          have eg := (hat 62 106 (of_decide_eq_true (by kernel_rfl)) (by kernel_rfl)).trans (hp 62 (by omega))
          rw [q0] at eg
          exact off_ (W := W) (wanted_undef rfl (by kernel_rfl) eg) rfl
        | false =>
          have eg := (hat 62 106 (of_decide_eq_true (by kernel_rfl)) (by kernel_rfl)).trans (hp 62 (by omega))
          rw [q0] at eg
          refine on_ ((wanted_by (c := true) rfl (by kernel_rfl) eg).trans rfl) ?_
          have e1 : F.eval (.tmp 1) = .pointer (some ⟨mb, 0, none⟩) := (hoff 1 (of_decide_eq_true (by kernel_rfl))).trans ha1
          have t1 := act_tmp e1
          clear hat hoff hp
          exact wp_value' (.pointer (some ⟨mb, 7, none⟩)) W (by unfold execOp; go_simp) ⟨_, rfl, rfl, hGW, hrefl W⟩
      | 64 =>
        conv at ho => lhs; whnf; arg 1; whnf
        injection ho with ho
        subst ho
        cases q0 : (((((term != 0) || (index != 0)) || (prev != 0)) || (commit != 0)) || (decide ((0 : Int) < (en : Nat)))) with
        | true =>
          have eg := (hat 62 106 (of_decide_eq_true (by kernel_rfl)) (by kernel_rfl)).trans (hp 62 (by omega))
          rw [q0] at eg
          exact off_ (W := W) (wanted_undef rfl (by kernel_rfl) eg) rfl
        | false =>
          have eg := (hat 62 106 (of_decide_eq_true (by kernel_rfl)) (by kernel_rfl)).trans (hp 62 (by omega))
          rw [q0] at eg
          refine on_ ((wanted_by (c := true) rfl (by kernel_rfl) eg).trans rfl) ?_
          have e107' := (hat 63 107 (of_decide_eq_true (by kernel_rfl)) (by kernel_rfl)).trans (hp 63 (by omega))
          rw [q0] at e107'
          have e107 : F.eval (.tmp 107) = .pointer (some ⟨mb, 7, none⟩) := e107'
          have t107 := act_tmp e107
          clear e107'
          clear hat hoff hp
          have d := hGW.1.cell 7
          simp at d
          exact wp_value' (.string data) W (by unfold execOp; go_simp) ⟨_, rfl, rfl, hGW, hrefl W⟩
      | 65 =>
        conv at ho => lhs; whnf; arg 1; whnf
        injection ho with ho
        subst ho
        cases q0 : (((((term != 0) || (index != 0)) || (prev != 0)) || (commit != 0)) || (decide ((0 : Int) < (en : Nat)))) with
        | true =>
          have eg := (hat 62 106 (of_decide_eq_true (by kernel_rfl)) (by kernel_rfl)).trans (hp 62 (by omega))
          rw [q0] at eg
          exact off_ (W := W) (wanted_undef rfl (by kernel_rfl) eg) rfl
        | false =>
          have eg := (hat 62 106 (of_decide_eq_true (by kernel_rfl)) (by kernel_rfl)).trans (hp 62 (by omega))
          rw [q0] at eg
          refine on_ ((wanted_by (c := true) rfl (by kernel_rfl) eg).trans rfl) ?_
          have e108' := (hat 64 108 (of_decide_eq_true (by kernel_rfl)) (by kernel_rfl)).trans (hp 64 (by omega))
          rw [q0] at e108'
          have e108 : F.eval (.tmp 108) = .string data := e108'
          have t108 := act_tmp e108
          clear e108'
          clear hat hoff hp
          exact wp_value' (.bool (data != ⟨#[]⟩)) W (by unfold execOp; go_simp; exact empty_eq) ⟨_, rfl, rfl, hGW, hrefl W⟩
      | 66 =>
        conv at ho => lhs; whnf; arg 1; whnf
        injection ho with ho
        subst ho
        cases q0 : (((((term != 0) || (index != 0)) || (prev != 0)) || (commit != 0)) || (decide ((0 : Int) < (en : Nat)))) with
        | true =>
          have eg := (hat 58 102 (of_decide_eq_true (by kernel_rfl)) (by kernel_rfl)).trans (hp 58 (by omega))
          rw [q0] at eg
          exact off_ (W := W) ((wanted_by (c := true) rfl (by kernel_rfl) eg).trans rfl) rfl
        | false =>
          have eg := (hat 58 102 (of_decide_eq_true (by kernel_rfl)) (by kernel_rfl)).trans (hp 58 (by omega))
          rw [q0] at eg
          refine on_ ((wanted_by (c := false) rfl (by kernel_rfl) eg).trans rfl) ?_
          have e106' := (hat 62 106 (of_decide_eq_true (by kernel_rfl)) (by kernel_rfl)).trans (hp 62 (by omega))
          rw [q0] at e106'
          have e106 : F.eval (.tmp 106) = .bool true := e106'
          have t106 := act_tmp e106
          clear e106'
          have e109' := (hat 65 109 (of_decide_eq_true (by kernel_rfl)) (by kernel_rfl)).trans (hp 65 (by omega))
          rw [q0] at e109'
          have e109 : F.eval (.tmp 109) = .bool (data != ⟨#[]⟩) := e109'
          have t109 := act_tmp e109
          clear e109'
          clear hat hoff hp
          exact wp_value' (.bool (data != ⟨#[]⟩)) W (by unfold execOp; go_simp) ⟨_, rfl, rfl, hGW, hrefl W⟩
      | 67 =>
        conv at ho => lhs; whnf; arg 1; whnf
        injection ho with ho
        subst ho
        refine on_ (wanted_none rfl) ?_
        cases qp : (((((term != 0) || (index != 0)) || (prev != 0)) || (commit != 0)) || (decide ((0 : Int) < (en : Nat)))) with
        | true =>
          have e102' := (hat 58 102 (of_decide_eq_true (by kernel_rfl)) (by kernel_rfl)).trans (hp 58 (by omega))
          have e102 : F.eval (.tmp 102) = .bool (((((term != 0) || (index != 0)) || (prev != 0)) || (commit != 0)) || (decide ((0 : Int) < (en : Nat)))) := e102'
          have t102 := act_tmp e102
          clear e102'
          rw [qp] at t102
          clear hat hoff hp
          exact wp_value' (.bool true) W (by unfold execOp; go_simp) ⟨_, rfl, rfl, hGW, hrefl W⟩
        | false =>
          have e102' := (hat 58 102 (of_decide_eq_true (by kernel_rfl)) (by kernel_rfl)).trans (hp 58 (by omega))
          have e102 : F.eval (.tmp 102) = .bool (((((term != 0) || (index != 0)) || (prev != 0)) || (commit != 0)) || (decide ((0 : Int) < (en : Nat)))) := e102'
          have t102 := act_tmp e102
          clear e102'
          rw [qp] at t102
          have e110' := (hat 66 110 (of_decide_eq_true (by kernel_rfl)) (by kernel_rfl)).trans (hp 66 (by omega))
          rw [qp] at e110'
          have e110 : F.eval (.tmp 110) = .bool (data != ⟨#[]⟩) := e110'
          have t110 := act_tmp e110
          clear e110'
          clear hat hoff hp
          exact wp_value' (.bool (data != ⟨#[]⟩)) W (by unfold execOp; go_simp) ⟨_, rfl, rfl, hGW, hrefl W⟩
      | 68 =>
        conv at ho => lhs; whnf; arg 1; whnf
        injection ho with ho
        subst ho
        refine on_ (wanted_none rfl) ?_
        have e111' := (hat 67 111 (of_decide_eq_true (by kernel_rfl)) (by kernel_rfl)).trans (hp 67 (by omega))
        have e111 : F.eval (.tmp 111) = .bool ((((((term != 0) || (index != 0)) || (prev != 0)) || (commit != 0)) || (decide ((0 : Int) < (en : Nat)))) || (data != ⟨#[]⟩)) := e111'
        have t111 := act_tmp e111
        clear e111'
        exact wp_move' (.tmp 111) rfl ⟨_, rfl, e111, hGW, hrefl W⟩
      | 69 =>
        conv at ho => lhs; whnf; arg 1; whnf
        injection ho with ho
        subst ho
        cases q0 : ((((((term != 0) || (index != 0)) || (prev != 0)) || (commit != 0)) || (decide ((0 : Int) < (en : Nat)))) || (data != ⟨#[]⟩)) with
        | true =>
          have eg := (hat 68 112 (of_decide_eq_true (by kernel_rfl)) (by kernel_rfl)).trans (hp 68 (by omega))
          rw [q0] at eg
          exact off_ (W := W) ((wanted_by (c := true) rfl (by kernel_rfl) eg).trans rfl) rfl
        | false =>
          have eg := (hat 68 112 (of_decide_eq_true (by kernel_rfl)) (by kernel_rfl)).trans (hp 68 (by omega))
          rw [q0] at eg
          refine on_ ((wanted_by (c := false) rfl (by kernel_rfl) eg).trans rfl) ?_
          have e4 : F.eval (.tmp 4) = .map (some g) := (hoff 4 (of_decide_eq_true (by kernel_rfl))).trans ha4
          have t4 := act_tmp e4
          exact wp_move' (.tmp 4) rfl ⟨_, rfl, e4, hGW, hrefl W⟩
      | 70 =>
        conv at ho => lhs; whnf; arg 1; whnf
        injection ho with ho
        subst ho
        cases q0 : ((((((term != 0) || (index != 0)) || (prev != 0)) || (commit != 0)) || (decide ((0 : Int) < (en : Nat)))) || (data != ⟨#[]⟩)) with
        | true =>
          have eg := (hat 68 112 (of_decide_eq_true (by kernel_rfl)) (by kernel_rfl)).trans (hp 68 (by omega))
          rw [q0] at eg
          exact off_ (W := W) ((wanted_by (c := true) rfl (by kernel_rfl) eg).trans rfl) rfl
        | false =>
          have eg := (hat 68 112 (of_decide_eq_true (by kernel_rfl)) (by kernel_rfl)).trans (hp 68 (by omega))
          rw [q0] at eg
          refine on_ ((wanted_by (c := false) rfl (by kernel_rfl) eg).trans rfl) ?_
          have e113' := (hat 69 113 (of_decide_eq_true (by kernel_rfl)) (by kernel_rfl)).trans (hp 69 (by omega))
          rw [q0] at e113'
          have e113 : F.eval (.tmp 113) = .map (some g) := e113'
          have t113 := act_tmp e113
          clear e113'
          clear hat hoff hp
          have l := HL104.out W hGW.2
          exact wp_value' (.bool false) W (by unfold execOp; go_simp) ⟨_, rfl, rfl, hGW, hrefl W⟩
      | 71 =>
        conv at ho => lhs; whnf; arg 1; whnf
        injection ho with ho
        subst ho
        cases q0 : ((((((term != 0) || (index != 0)) || (prev != 0)) || (commit != 0)) || (decide ((0 : Int) < (en : Nat)))) || (data != ⟨#[]⟩)) with
        | true =>
          have eg := (hat 68 112 (of_decide_eq_true (by kernel_rfl)) (by kernel_rfl)).trans (hp 68 (by omega))
          rw [q0] at eg
          exact off_ (W := W) ((wanted_by (c := true) rfl (by kernel_rfl) eg).trans rfl) rfl
        | false =>
          have eg := (hat 68 112 (of_decide_eq_true (by kernel_rfl)) (by kernel_rfl)).trans (hp 68 (by omega))
          rw [q0] at eg
          refine on_ ((wanted_by (c := false) rfl (by kernel_rfl) eg).trans rfl) ?_
          have e114' := (hat 70 114 (of_decide_eq_true (by kernel_rfl)) (by kernel_rfl)).trans (hp 70 (by omega))
          rw [q0] at e114'
          have e114 : F.eval (.tmp 114) = .bool false := e114'
          have t114 := act_tmp e114
          clear e114'
          clear hat hoff hp
          exact wp_value' (.bool true) W (by unfold execOp; go_simp) ⟨_, rfl, rfl, hGW, hrefl W⟩
      | 72 =>
        conv at ho => lhs; whnf; arg 1; whnf
        injection ho with ho
        subst ho
        cases q0 : ((((((term != 0) || (index != 0)) || (prev != 0)) || (commit != 0)) || (decide ((0 : Int) < (en : Nat)))) || (data != ⟨#[]⟩)) with
        | true =>
          have eg := (hat 68 112 (of_decide_eq_true (by kernel_rfl)) (by kernel_rfl)).trans (hp 68 (by omega))
          rw [q0] at eg
          exact off_ (W := W) ((wanted_by (c := true) rfl (by kernel_rfl) eg).trans rfl) rfl
        | false =>
          have eg := (hat 68 112 (of_decide_eq_true (by kernel_rfl)) (by kernel_rfl)).trans (hp 68 (by omega))
          rw [q0] at eg
          refine on_ ((wanted_by (c := false) rfl (by kernel_rfl) eg).trans rfl) ?_
          have e115' := (hat 71 115 (of_decide_eq_true (by kernel_rfl)) (by kernel_rfl)).trans (hp 71 (by omega))
          rw [q0] at e115'
          have e115 : F.eval (.tmp 115) = .bool true := e115'
          have t115 := act_tmp e115
          clear e115'
          exact wp_move' (.tmp 115) rfl ⟨_, rfl, e115, hGW, hrefl W⟩
      | 73 =>
        conv at ho => lhs; whnf; arg 1; whnf
        injection ho with ho
        subst ho
        cases q0 : ((((((term != 0) || (index != 0)) || (prev != 0)) || (commit != 0)) || (decide ((0 : Int) < (en : Nat)))) || (data != ⟨#[]⟩)) with
        | true =>
          have eg := (hat 72 116 (of_decide_eq_true (by kernel_rfl)) (by kernel_rfl)).trans (hp 72 (by omega))
          rw [q0] at eg
          exact off_ (W := W) (wanted_undef rfl (by kernel_rfl) eg) rfl
        | false =>
          have eg := (hat 72 116 (of_decide_eq_true (by kernel_rfl)) (by kernel_rfl)).trans (hp 72 (by omega))
          rw [q0] at eg
          refine on_ ((wanted_by (c := true) rfl (by kernel_rfl) eg).trans rfl) ?_
          have e1 : F.eval (.tmp 1) = .pointer (some ⟨mb, 0, none⟩) := (hoff 1 (of_decide_eq_true (by kernel_rfl))).trans ha1
          have t1 := act_tmp e1
          clear hat hoff hp
          exact wp_value' (.pointer (some ⟨mb, 8, none⟩)) W (by unfold execOp; go_simp) ⟨_, rfl, rfl, hGW, hrefl W⟩
      | 74 =>
        conv at ho => lhs; whnf; arg 1; whnf
        injection ho with ho
        subst ho
        cases q0 : ((((((term != 0) || (index != 0)) || (prev != 0)) || (commit != 0)) || (decide ((0 : Int) < (en : Nat)))) || (data != ⟨#[]⟩)) with
        | true =>
          have eg := (hat 72 116 (of_decide_eq_true (by kernel_rfl)) (by kernel_rfl)).trans (hp 72 (by omega))
          rw [q0] at eg
          exact off_ (W := W) (wanted_undef rfl (by kernel_rfl) eg) rfl
        | false =>
          have eg := (hat 72 116 (of_decide_eq_true (by kernel_rfl)) (by kernel_rfl)).trans (hp 72 (by omega))
          rw [q0] at eg
          refine on_ ((wanted_by (c := true) rfl (by kernel_rfl) eg).trans rfl) ?_
          have e117' := (hat 73 117 (of_decide_eq_true (by kernel_rfl)) (by kernel_rfl)).trans (hp 73 (by omega))
          rw [q0] at e117'
          have e117 : F.eval (.tmp 117) = .pointer (some ⟨mb, 8, none⟩) := e117'
          have t117 := act_tmp e117
          clear e117'
          clear hat hoff hp
          have d := hGW.1.cell 8
          simp at d
          exact wp_value' (.slice hA hn hc) W (by unfold execOp; go_simp) ⟨_, rfl, rfl, hGW, hrefl W⟩
      | 75 =>
        conv at ho => lhs; whnf; arg 1; whnf
        injection ho with ho
        subst ho
        cases q0 : ((((((term != 0) || (index != 0)) || (prev != 0)) || (commit != 0)) || (decide ((0 : Int) < (en : Nat)))) || (data != ⟨#[]⟩)) with
        | true =>
          have eg := (hat 72 116 (of_decide_eq_true (by kernel_rfl)) (by kernel_rfl)).trans (hp 72 (by omega))
          rw [q0] at eg
          exact off_ (W := W) (wanted_undef rfl (by kernel_rfl) eg) rfl
        | false =>
          have eg := (hat 72 116 (of_decide_eq_true (by kernel_rfl)) (by kernel_rfl)).trans (hp 72 (by omega))
          rw [q0] at eg
          refine on_ ((wanted_by (c := true) rfl (by kernel_rfl) eg).trans rfl) ?_
          have e118' := (hat 74 118 (of_decide_eq_true (by kernel_rfl)) (by kernel_rfl)).trans (hp 74 (by omega))
          rw [q0] at e118'
          have e118 : F.eval (.tmp 118) = .slice hA hn hc := e118'
          have t118 := act_tmp e118
          clear e118'
          clear hat hoff hp
          exact wp_value' (.int .i64 (hn : Nat)) W (by unfold execOp; go_simp) ⟨_, rfl, rfl, hGW, hrefl W⟩
      | 76 =>
        conv at ho => lhs; whnf; arg 1; whnf
        injection ho with ho
        subst ho
        cases q0 : ((((((term != 0) || (index != 0)) || (prev != 0)) || (commit != 0)) || (decide ((0 : Int) < (en : Nat)))) || (data != ⟨#[]⟩)) with
        | true =>
          have eg := (hat 72 116 (of_decide_eq_true (by kernel_rfl)) (by kernel_rfl)).trans (hp 72 (by omega))
          rw [q0] at eg
          exact off_ (W := W) (wanted_undef rfl (by kernel_rfl) eg) rfl
        | false =>
          have eg := (hat 72 116 (of_decide_eq_true (by kernel_rfl)) (by kernel_rfl)).trans (hp 72 (by omega))
          rw [q0] at eg
          refine on_ ((wanted_by (c := true) rfl (by kernel_rfl) eg).trans rfl) ?_
          have e119' := (hat 75 119 (of_decide_eq_true (by kernel_rfl)) (by kernel_rfl)).trans (hp 75 (by omega))
          rw [q0] at e119'
          have e119 : F.eval (.tmp 119) = .int .i64 (hn : Nat) := e119'
          have t119 := act_tmp e119
          clear e119'
          clear hat hoff hp
          exact wp_value' (.bool (decide ((0 : Int) < (hn : Nat)))) W (by unfold execOp; go_simp) ⟨_, rfl, rfl, hGW, hrefl W⟩
      | 77 =>
        conv at ho => lhs; whnf; arg 1; whnf
        injection ho with ho
        subst ho
        cases q0 : ((((((term != 0) || (index != 0)) || (prev != 0)) || (commit != 0)) || (decide ((0 : Int) < (en : Nat)))) || (data != ⟨#[]⟩)) with
        | true =>
          have eg := (hat 68 112 (of_decide_eq_true (by kernel_rfl)) (by kernel_rfl)).trans (hp 68 (by omega))
          rw [q0] at eg
          exact off_ (W := W) ((wanted_by (c := true) rfl (by kernel_rfl) eg).trans rfl) rfl
        | false =>
          have eg := (hat 68 112 (of_decide_eq_true (by kernel_rfl)) (by kernel_rfl)).trans (hp 68 (by omega))
          rw [q0] at eg
          refine on_ ((wanted_by (c := false) rfl (by kernel_rfl) eg).trans rfl) ?_
          have e116' := (hat 72 116 (of_decide_eq_true (by kernel_rfl)) (by kernel_rfl)).trans (hp 72 (by omega))
          rw [q0] at e116'
          have e116 : F.eval (.tmp 116) = .bool true := e116'
          have t116 := act_tmp e116
          clear e116'
          have e120' := (hat 76 120 (of_decide_eq_true (by kernel_rfl)) (by kernel_rfl)).trans (hp 76 (by omega))
          rw [q0] at e120'
          have e120 : F.eval (.tmp 120) = .bool (decide ((0 : Int) < (hn : Nat))) := e120'
          have t120 := act_tmp e120
          clear e120'
          clear hat hoff hp
          exact wp_value' (.bool (decide ((0 : Int) < (hn : Nat)))) W (by unfold execOp; go_simp) ⟨_, rfl, rfl, hGW, hrefl W⟩
      | 78 =>
        conv at ho => lhs; whnf; arg 1; whnf
        injection ho with ho
        subst ho
        refine on_ (wanted_none rfl) ?_
        cases qp : ((((((term != 0) || (index != 0)) || (prev != 0)) || (commit != 0)) || (decide ((0 : Int) < (en : Nat)))) || (data != ⟨#[]⟩)) with
        | true =>
          have e112' := (hat 68 112 (of_decide_eq_true (by kernel_rfl)) (by kernel_rfl)).trans (hp 68 (by omega))
          have e112 : F.eval (.tmp 112) = .bool ((((((term != 0) || (index != 0)) || (prev != 0)) || (commit != 0)) || (decide ((0 : Int) < (en : Nat)))) || (data != ⟨#[]⟩)) := e112'
          have t112 := act_tmp e112
          clear e112'
          rw [qp] at t112
          clear hat hoff hp
          exact wp_value' (.bool true) W (by unfold execOp; go_simp) ⟨_, rfl, rfl, hGW, hrefl W⟩
        | false =>
          have e112' := (hat 68 112 (of_decide_eq_true (by kernel_rfl)) (by kernel_rfl)).trans (hp 68 (by omega))
          have e112 : F.eval (.tmp 112) = .bool ((((((term != 0) || (index != 0)) || (prev != 0)) || (commit != 0)) || (decide ((0 : Int) < (en : Nat)))) || (data != ⟨#[]⟩)) := e112'
          have t112 := act_tmp e112
          clear e112'
          rw [qp] at t112
          have e121' := (hat 77 121 (of_decide_eq_true (by kernel_rfl)) (by kernel_rfl)).trans (hp 77 (by omega))
          rw [qp] at e121'
          have e121 : F.eval (.tmp 121) = .bool (decide ((0 : Int) < (hn : Nat))) := e121'
          have t121 := act_tmp e121
          clear e121'
          clear hat hoff hp
          exact wp_value' (.bool (decide ((0 : Int) < (hn : Nat)))) W (by unfold execOp; go_simp) ⟨_, rfl, rfl, hGW, hrefl W⟩
      | 79 =>
        conv at ho => lhs; whnf; arg 1; whnf
        injection ho with ho
        subst ho
        refine on_ (wanted_none rfl) ?_
        have e122' := (hat 78 122 (of_decide_eq_true (by kernel_rfl)) (by kernel_rfl)).trans (hp 78 (by omega))
        have e122 : F.eval (.tmp 122) = .bool (((((((term != 0) || (index != 0)) || (prev != 0)) || (commit != 0)) || (decide ((0 : Int) < (en : Nat)))) || (data != ⟨#[]⟩)) || (decide ((0 : Int) < (hn : Nat)))) := e122'
        have t122 := act_tmp e122
        clear e122'
        exact wp_move' (.tmp 122) rfl ⟨_, rfl, e122, hGW, hrefl W⟩
      | 80 =>
        conv at ho => lhs; whnf; arg 1; whnf
        injection ho with ho
        subst ho
        cases q0 : (((((((term != 0) || (index != 0)) || (prev != 0)) || (commit != 0)) || (decide ((0 : Int) < (en : Nat)))) || (data != ⟨#[]⟩)) || (decide ((0 : Int) < (hn : Nat)))) with
        | true =>
          have eg := (hat 79 123 (of_decide_eq_true (by kernel_rfl)) (by kernel_rfl)).trans (hp 79 (by omega))
          rw [q0] at eg
          exact off_ (W := W) ((wanted_by (c := true) rfl (by kernel_rfl) eg).trans rfl) rfl
        | false =>
          have eg := (hat 79 123 (of_decide_eq_true (by kernel_rfl)) (by kernel_rfl)).trans (hp 79 (by omega))
          rw [q0] at eg
          refine on_ ((wanted_by (c := false) rfl (by kernel_rfl) eg).trans rfl) ?_
          have e4 : F.eval (.tmp 4) = .map (some g) := (hoff 4 (of_decide_eq_true (by kernel_rfl))).trans ha4
          have t4 := act_tmp e4
          exact wp_move' (.tmp 4) rfl ⟨_, rfl, e4, hGW, hrefl W⟩
      | 81 =>
        conv at ho => lhs; whnf; arg 1; whnf
        injection ho with ho
        subst ho
        cases q0 : (((((((term != 0) || (index != 0)) || (prev != 0)) || (commit != 0)) || (decide ((0 : Int) < (en : Nat)))) || (data != ⟨#[]⟩)) || (decide ((0 : Int) < (hn : Nat)))) with
        | true =>
          have eg := (hat 79 123 (of_decide_eq_true (by kernel_rfl)) (by kernel_rfl)).trans (hp 79 (by omega))
          rw [q0] at eg
          exact off_ (W := W) ((wanted_by (c := true) rfl (by kernel_rfl) eg).trans rfl) rfl
        | false =>
          have eg := (hat 79 123 (of_decide_eq_true (by kernel_rfl)) (by kernel_rfl)).trans (hp 79 (by omega))
          rw [q0] at eg
          refine on_ ((wanted_by (c := false) rfl (by kernel_rfl) eg).trans rfl) ?_
          have e124' := (hat 80 124 (of_decide_eq_true (by kernel_rfl)) (by kernel_rfl)).trans (hp 80 (by omega))
          rw [q0] at e124'
          have e124 : F.eval (.tmp 124) = .map (some g) := e124'
          have t124 := act_tmp e124
          clear e124'
          clear hat hoff hp
          have l := HL69.out W hGW.2
          exact wp_value' (.bool true) W (by unfold execOp; go_simp) ⟨_, rfl, rfl, hGW, hrefl W⟩
      | 82 =>
        conv at ho => lhs; whnf; arg 1; whnf
        injection ho with ho
        subst ho
        cases q0 : (((((((term != 0) || (index != 0)) || (prev != 0)) || (commit != 0)) || (decide ((0 : Int) < (en : Nat)))) || (data != ⟨#[]⟩)) || (decide ((0 : Int) < (hn : Nat)))) with
        | true =>
          have eg := (hat 79 123 (of_decide_eq_true (by kernel_rfl)) (by kernel_rfl)).trans (hp 79 (by omega))
          rw [q0] at eg
          exact off_ (W := W) ((wanted_by (c := true) rfl (by kernel_rfl) eg).trans rfl) rfl
        | false =>
          have eg := (hat 79 123 (of_decide_eq_true (by kernel_rfl)) (by kernel_rfl)).trans (hp 79 (by omega))
          rw [q0] at eg
          refine on_ ((wanted_by (c := false) rfl (by kernel_rfl) eg).trans rfl) ?_
          have e125' := (hat 81 125 (of_decide_eq_true (by kernel_rfl)) (by kernel_rfl)).trans (hp 81 (by omega))
          rw [q0] at e125'
          have e125 : F.eval (.tmp 125) = .bool true := e125'
          have t125 := act_tmp e125
          clear e125'
          clear hat hoff hp
          exact wp_value' (.bool false) W (by unfold execOp; go_simp) ⟨_, rfl, rfl, hGW, hrefl W⟩
      | 83 =>
        conv at ho => lhs; whnf; arg 1; whnf
        injection ho with ho
        subst ho
        cases q0 : (((((((term != 0) || (index != 0)) || (prev != 0)) || (commit != 0)) || (decide ((0 : Int) < (en : Nat)))) || (data != ⟨#[]⟩)) || (decide ((0 : Int) < (hn : Nat)))) with
        | true =>
          have eg := (hat 79 123 (of_decide_eq_true (by kernel_rfl)) (by kernel_rfl)).trans (hp 79 (by omega))
          rw [q0] at eg
          exact off_ (W := W) ((wanted_by (c := true) rfl (by kernel_rfl) eg).trans rfl) rfl
        | false =>
          have eg := (hat 79 123 (of_decide_eq_true (by kernel_rfl)) (by kernel_rfl)).trans (hp 79 (by omega))
          rw [q0] at eg
          refine on_ ((wanted_by (c := false) rfl (by kernel_rfl) eg).trans rfl) ?_
          have e126' := (hat 82 126 (of_decide_eq_true (by kernel_rfl)) (by kernel_rfl)).trans (hp 82 (by omega))
          rw [q0] at e126'
          have e126 : F.eval (.tmp 126) = .bool false := e126'
          have t126 := act_tmp e126
          clear e126'
          exact wp_move' (.tmp 126) rfl ⟨_, rfl, e126, hGW, hrefl W⟩
      | 84 =>
        conv at ho => lhs; whnf; arg 1; whnf
        injection ho with ho
        subst ho
        cases q0 : (((((((term != 0) || (index != 0)) || (prev != 0)) || (commit != 0)) || (decide ((0 : Int) < (en : Nat)))) || (data != ⟨#[]⟩)) || (decide ((0 : Int) < (hn : Nat)))) with
        | true =>
          have eg := (hat 83 127 (of_decide_eq_true (by kernel_rfl)) (by kernel_rfl)).trans (hp 83 (by omega))
          rw [q0] at eg
          exact off_ (W := W) (wanted_undef rfl (by kernel_rfl) eg) rfl
        | false =>
          have eg := (hat 83 127 (of_decide_eq_true (by kernel_rfl)) (by kernel_rfl)).trans (hp 83 (by omega))
          rw [q0] at eg
          exact off_ (W := W) ((wanted_by (c := false) rfl (by kernel_rfl) eg).trans rfl) rfl
      | 85 =>
        conv at ho => lhs; whnf; arg 1; whnf
        injection ho with ho
        subst ho
        cases q0 : (((((((term != 0) || (index != 0)) || (prev != 0)) || (commit != 0)) || (decide ((0 : Int) < (en : Nat)))) || (data != ⟨#[]⟩)) || (decide ((0 : Int) < (hn : Nat)))) with
        | true =>
          have eg := (hat 83 127 (of_decide_eq_true (by kernel_rfl)) (by kernel_rfl)).trans (hp 83 (by omega))
          rw [q0] at eg
          exact off_ (W := W) (wanted_undef rfl (by kernel_rfl) eg) rfl
        | false =>
          have eg := (hat 83 127 (of_decide_eq_true (by kernel_rfl)) (by kernel_rfl)).trans (hp 83 (by omega))
          rw [q0] at eg
          exact off_ (W := W) ((wanted_by (c := false) rfl (by kernel_rfl) eg).trans rfl) rfl
      | 86 =>
        conv at ho => lhs; whnf; arg 1; whnf
        injection ho with ho
        subst ho
        cases q0 : (((((((term != 0) || (index != 0)) || (prev != 0)) || (commit != 0)) || (decide ((0 : Int) < (en : Nat)))) || (data != ⟨#[]⟩)) || (decide ((0 : Int) < (hn : Nat)))) with
        | true =>
          have eg := (hat 83 127 (of_decide_eq_true (by kernel_rfl)) (by kernel_rfl)).trans (hp 83 (by omega))
          rw [q0] at eg
          exact off_ (W := W) (wanted_undef rfl (by kernel_rfl) eg) rfl
        | false =>
          have eg := (hat 83 127 (of_decide_eq_true (by kernel_rfl)) (by kernel_rfl)).trans (hp 83 (by omega))
          rw [q0] at eg
          exact off_ (W := W) ((wanted_by (c := false) rfl (by kernel_rfl) eg).trans rfl) rfl
      | 87 =>
        conv at ho => lhs; whnf; arg 1; whnf
        injection ho with ho
        subst ho
        cases q0 : (((((((term != 0) || (index != 0)) || (prev != 0)) || (commit != 0)) || (decide ((0 : Int) < (en : Nat)))) || (data != ⟨#[]⟩)) || (decide ((0 : Int) < (hn : Nat)))) with
        | true =>
          have eg := (hat 79 123 (of_decide_eq_true (by kernel_rfl)) (by kernel_rfl)).trans (hp 79 (by omega))
          rw [q0] at eg
          exact off_ (W := W) ((wanted_by (c := true) rfl (by kernel_rfl) eg).trans rfl) rfl
        | false =>
          have eg := (hat 79 123 (of_decide_eq_true (by kernel_rfl)) (by kernel_rfl)).trans (hp 79 (by omega))
          rw [q0] at eg
          refine on_ ((wanted_by (c := false) rfl (by kernel_rfl) eg).trans rfl) ?_
          have e127' := (hat 83 127 (of_decide_eq_true (by kernel_rfl)) (by kernel_rfl)).trans (hp 83 (by omega))
          rw [q0] at e127'
          have e127 : F.eval (.tmp 127) = .bool false := e127'
          have t127 := act_tmp e127
          clear e127'
          clear hat hoff hp
          exact wp_value' (.bool false) W (by unfold execOp; go_simp) ⟨_, rfl, rfl, hGW, hrefl W⟩
      | 88 =>
        conv at ho => lhs; whnf; arg 1; whnf
        injection ho with ho
        subst ho
        refine on_ (wanted_none rfl) ?_
        cases qp : (((((((term != 0) || (index != 0)) || (prev != 0)) || (commit != 0)) || (decide ((0 : Int) < (en : Nat)))) || (data != ⟨#[]⟩)) || (decide ((0 : Int) < (hn : Nat)))) with
        | true =>
          have e123' := (hat 79 123 (of_decide_eq_true (by kernel_rfl)) (by kernel_rfl)).trans (hp 79 (by omega))
          have e123 : F.eval (.tmp 123) = .bool (((((((term != 0) || (index != 0)) || (prev != 0)) || (commit != 0)) || (decide ((0 : Int) < (en : Nat)))) || (data != ⟨#[]⟩)) || (decide ((0 : Int) < (hn : Nat)))) := e123'
          have t123 := act_tmp e123
          clear e123'
          rw [qp] at t123
          clear hat hoff hp
          exact wp_value' (.bool true) W (by unfold execOp; go_simp) ⟨_, rfl, rfl, hGW, hrefl W⟩
        | false =>
          have e123' := (hat 79 123 (of_decide_eq_true (by kernel_rfl)) (by kernel_rfl)).trans (hp 79 (by omega))
          have e123 : F.eval (.tmp 123) = .bool (((((((term != 0) || (index != 0)) || (prev != 0)) || (commit != 0)) || (decide ((0 : Int) < (en : Nat)))) || (data != ⟨#[]⟩)) || (decide ((0 : Int) < (hn : Nat)))) := e123'
          have t123 := act_tmp e123
          clear e123'
          rw [qp] at t123
          have e131' := (hat 87 131 (of_decide_eq_true (by kernel_rfl)) (by kernel_rfl)).trans (hp 87 (by omega))
          rw [qp] at e131'
          have e131 : F.eval (.tmp 131) = .bool false := e131'
          have t131 := act_tmp e131
          clear e131'
          clear hat hoff hp
          exact wp_value' (.bool false) W (by unfold execOp; go_simp) ⟨_, rfl, rfl, hGW, hrefl W⟩
      | 89 =>
        conv at ho => lhs; whnf; arg 1; whnf
        injection ho with ho
        subst ho
        refine on_ (wanted_none rfl) ?_
        have e132' := (hat 88 132 (of_decide_eq_true (by kernel_rfl)) (by kernel_rfl)).trans (hp 88 (by omega))
        have e132 : F.eval (.tmp 132) = .bool (((((((term != 0) || (index != 0)) || (prev != 0)) || (commit != 0)) || (decide ((0 : Int) < (en : Nat)))) || (data != ⟨#[]⟩)) || (decide ((0 : Int) < (hn : Nat)))) := e132'
        have t132 := act_tmp e132
        clear e132'
        exact wp_move' (.tmp 132) rfl ⟨_, rfl, e132, hGW, hrefl W⟩
      | 90 =>
        conv at ho => lhs; whnf; arg 1; whnf
        injection ho with ho
        subst ho
        cases q0 : (((((((term != 0) || (index != 0)) || (prev != 0)) || (commit != 0)) || (decide ((0 : Int) < (en : Nat)))) || (data != ⟨#[]⟩)) || (decide ((0 : Int) < (hn : Nat)))) with
        | true =>
          have eg := (hat 89 133 (of_decide_eq_true (by kernel_rfl)) (by kernel_rfl)).trans (hp 89 (by omega))
          rw [q0] at eg
          exact off_ (W := W) ((wanted_by (c := true) rfl (by kernel_rfl) eg).trans rfl) rfl
        | false =>
          have eg := (hat 89 133 (of_decide_eq_true (by kernel_rfl)) (by kernel_rfl)).trans (hp 89 (by omega))
          rw [q0] at eg
          refine on_ ((wanted_by (c := false) rfl (by kernel_rfl) eg).trans rfl) ?_
          have e4 : F.eval (.tmp 4) = .map (some g) := (hoff 4 (of_decide_eq_true (by kernel_rfl))).trans ha4
          have t4 := act_tmp e4
          exact wp_move' (.tmp 4) rfl ⟨_, rfl, e4, hGW, hrefl W⟩
      | 91 =>
        conv at ho => lhs; whnf; arg 1; whnf
        injection ho with ho
        subst ho
        cases q0 : (((((((term != 0) || (index != 0)) || (prev != 0)) || (commit != 0)) || (decide ((0 : Int) < (en : Nat)))) || (data != ⟨#[]⟩)) || (decide ((0 : Int) < (hn : Nat)))) with
        | true =>
          have eg := (hat 89 133 (of_decide_eq_true (by kernel_rfl)) (by kernel_rfl)).trans (hp 89 (by omega))
          rw [q0] at eg
          exact off_ (W := W) ((wanted_by (c := true) rfl (by kernel_rfl) eg).trans rfl) rfl
        | false =>
          have eg := (hat 89 133 (of_decide_eq_true (by kernel_rfl)) (by kernel_rfl)).trans (hp 89 (by omega))
          rw [q0] at eg
          refine on_ ((wanted_by (c := false) rfl (by kernel_rfl) eg).trans rfl) ?_
          have e134' := (hat 90 134 (of_decide_eq_true (by kernel_rfl)) (by kernel_rfl)).trans (hp 90 (by omega))
          rw [q0] at e134'
          have e134 : F.eval (.tmp 134) = .map (some g) := e134'
          have t134 := act_tmp e134
          clear e134'
          clear hat hoff hp
          have l := HL115.out W hGW.2
          exact wp_value' (.bool false) W (by unfold execOp; go_simp) ⟨_, rfl, rfl, hGW, hrefl W⟩
      | 92 =>
        conv at ho => lhs; whnf; arg 1; whnf
        injection ho with ho
        subst ho
        cases q0 : (((((((term != 0) || (index != 0)) || (prev != 0)) || (commit != 0)) || (decide ((0 : Int) < (en : Nat)))) || (data != ⟨#[]⟩)) || (decide ((0 : Int) < (hn : Nat)))) with
        | true =>
          have eg := (hat 89 133 (of_decide_eq_true (by kernel_rfl)) (by kernel_rfl)).trans (hp 89 (by omega))
          rw [q0] at eg
          exact off_ (W := W) ((wanted_by (c := true) rfl (by kernel_rfl) eg).trans rfl) rfl
        | false =>
          have eg := (hat 89 133 (of_decide_eq_true (by kernel_rfl)) (by kernel_rfl)).trans (hp 89 (by omega))
          rw [q0] at eg
          refine on_ ((wanted_by (c := false) rfl (by kernel_rfl) eg).trans rfl) ?_
          have e135' := (hat 91 135 (of_decide_eq_true (by kernel_rfl)) (by kernel_rfl)).trans (hp 91 (by omega))
          rw [q0] at e135'
          have e135 : F.eval (.tmp 135) = .bool false := e135'
          have t135 := act_tmp e135
          clear e135'
          clear hat hoff hp
          exact wp_value' (.bool true) W (by unfold execOp; go_simp) ⟨_, rfl, rfl, hGW, hrefl W⟩
      | 93 =>
        conv at ho => lhs; whnf; arg 1; whnf
        injection ho with ho
        subst ho
        cases q0 : (((((((term != 0) || (index != 0)) || (prev != 0)) || (commit != 0)) || (decide ((0 : Int) < (en : Nat)))) || (data != ⟨#[]⟩)) || (decide ((0 : Int) < (hn : Nat)))) with
        | true =>
          have eg := (hat 89 133 (of_decide_eq_true (by kernel_rfl)) (by kernel_rfl)).trans (hp 89 (by omega))
          rw [q0] at eg
          exact off_ (W := W) ((wanted_by (c := true) rfl (by kernel_rfl) eg).trans rfl) rfl
        | false =>
          have eg := (hat 89 133 (of_decide_eq_true (by kernel_rfl)) (by kernel_rfl)).trans (hp 89 (by omega))
          rw [q0] at eg
          refine on_ ((wanted_by (c := false) rfl (by kernel_rfl) eg).trans rfl) ?_
          have e136' := (hat 92 136 (of_decide_eq_true (by kernel_rfl)) (by kernel_rfl)).trans (hp 92 (by omega))
          rw [q0] at e136'
          have e136 : F.eval (.tmp 136) = .bool true := e136'
          have t136 := act_tmp e136
          clear e136'
          exact wp_move' (.tmp 136) rfl ⟨_, rfl, e136, hGW, hrefl W⟩
      | 94 =>
        conv at ho => lhs; whnf; arg 1; whnf
        injection ho with ho
        subst ho
        cases q0 : (((((((term != 0) || (index != 0)) || (prev != 0)) || (commit != 0)) || (decide ((0 : Int) < (en : Nat)))) || (data != ⟨#[]⟩)) || (decide ((0 : Int) < (hn : Nat)))) with
        | true =>
          have eg := (hat 93 137 (of_decide_eq_true (by kernel_rfl)) (by kernel_rfl)).trans (hp 93 (by omega))
          rw [q0] at eg
          exact off_ (W := W) (wanted_undef rfl (by kernel_rfl) eg) rfl
        | false =>
          have eg := (hat 93 137 (of_decide_eq_true (by kernel_rfl)) (by kernel_rfl)).trans (hp 93 (by omega))
          rw [q0] at eg
          refine on_ ((wanted_by (c := true) rfl (by kernel_rfl) eg).trans rfl) ?_
          have e1 : F.eval (.tmp 1) = .pointer (some ⟨mb, 0, none⟩) := (hoff 1 (of_decide_eq_true (by kernel_rfl))).trans ha1
          have t1 := act_tmp e1
          clear hat hoff hp
          exact wp_value' (.pointer (some ⟨mb, 10, none⟩)) W (by unfold execOp; go_simp) ⟨_, rfl, rfl, hGW, hrefl W⟩
      | 95 =>
        conv at ho => lhs; whnf; arg 1; whnf
        injection ho with ho
        subst ho
        cases q0 : (((((((term != 0) || (index != 0)) || (prev != 0)) || (commit != 0)) || (decide ((0 : Int) < (en : Nat)))) || (data != ⟨#[]⟩)) || (decide ((0 : Int) < (hn : Nat)))) with
        | true =>
          have eg := (hat 93 137 (of_decide_eq_true (by kernel_rfl)) (by kernel_rfl)).trans (hp 93 (by omega))
          rw [q0] at eg
          exact off_ (W := W) (wanted_undef rfl (by kernel_rfl) eg) rfl
        | false =>
          have eg := (hat 93 137 (of_decide_eq_true (by kernel_rfl)) (by kernel_rfl)).trans (hp 93 (by omega))
          rw [q0] at eg
          refine on_ ((wanted_by (c := true) rfl (by kernel_rfl) eg).trans rfl) ?_
          have e138' := (hat 94 138 (of_decide_eq_true (by kernel_rfl)) (by kernel_rfl)).trans (hp 94 (by omega))
          rw [q0] at e138'
          have e138 : F.eval (.tmp 138) = .pointer (some ⟨mb, 10, none⟩) := e138'
          have t138 := act_tmp e138
          clear e138'
          clear hat hoff hp
          have d := hGW.1.cell 10
          simp at d
          exact wp_value' (.int .i64 site) W (by unfold execOp; go_simp) ⟨_, rfl, rfl, hGW, hrefl W⟩
      | 96 =>
        conv at ho => lhs; whnf; arg 1; whnf
        injection ho with ho
        subst ho
        cases q0 : (((((((term != 0) || (index != 0)) || (prev != 0)) || (commit != 0)) || (decide ((0 : Int) < (en : Nat)))) || (data != ⟨#[]⟩)) || (decide ((0 : Int) < (hn : Nat)))) with
        | true =>
          have eg := (hat 93 137 (of_decide_eq_true (by kernel_rfl)) (by kernel_rfl)).trans (hp 93 (by omega))
          rw [q0] at eg
          exact off_ (W := W) (wanted_undef rfl (by kernel_rfl) eg) rfl
        | false =>
          have eg := (hat 93 137 (of_decide_eq_true (by kernel_rfl)) (by kernel_rfl)).trans (hp 93 (by omega))
          rw [q0] at eg
          refine on_ ((wanted_by (c := true) rfl (by kernel_rfl) eg).trans rfl) ?_
          have e139' := (hat 95 139 (of_decide_eq_true (by kernel_rfl)) (by kernel_rfl)).trans (hp 95 (by omega))
          rw [q0] at e139'
          have e139 : F.eval (.tmp 139) = .int .i64 site := e139'
          have t139 := act_tmp e139
          clear e139'
          clear hat hoff hp
          exact wp_value' (.bool (site != 0)) W (by unfold execOp; go_simp) ⟨_, rfl, rfl, hGW, hrefl W⟩
      | 97 =>
        conv at ho => lhs; whnf; arg 1; whnf
        injection ho with ho
        subst ho
        cases q0 : (((((((term != 0) || (index != 0)) || (prev != 0)) || (commit != 0)) || (decide ((0 : Int) < (en : Nat)))) || (data != ⟨#[]⟩)) || (decide ((0 : Int) < (hn : Nat)))) with
        | true =>
          have eg := (hat 89 133 (of_decide_eq_true (by kernel_rfl)) (by kernel_rfl)).trans (hp 89 (by omega))
          rw [q0] at eg
          exact off_ (W := W) ((wanted_by (c := true) rfl (by kernel_rfl) eg).trans rfl) rfl
        | false =>
          have eg := (hat 89 133 (of_decide_eq_true (by kernel_rfl)) (by kernel_rfl)).trans (hp 89 (by omega))
          rw [q0] at eg
          refine on_ ((wanted_by (c := false) rfl (by kernel_rfl) eg).trans rfl) ?_
          have e137' := (hat 93 137 (of_decide_eq_true (by kernel_rfl)) (by kernel_rfl)).trans (hp 93 (by omega))
          rw [q0] at e137'
          have e137 : F.eval (.tmp 137) = .bool true := e137'
          have t137 := act_tmp e137
          clear e137'
          have e140' := (hat 96 140 (of_decide_eq_true (by kernel_rfl)) (by kernel_rfl)).trans (hp 96 (by omega))
          rw [q0] at e140'
          have e140 : F.eval (.tmp 140) = .bool (site != 0) := e140'
          have t140 := act_tmp e140
          clear e140'
          clear hat hoff hp
          exact wp_value' (.bool (site != 0)) W (by unfold execOp; go_simp) ⟨_, rfl, rfl, hGW, hrefl W⟩
      | 98 =>
        conv at ho => lhs; whnf; arg 1; whnf
        injection ho with ho
        subst ho
        refine on_ (wanted_none rfl) ?_
        cases qp : (((((((term != 0) || (index != 0)) || (prev != 0)) || (commit != 0)) || (decide ((0 : Int) < (en : Nat)))) || (data != ⟨#[]⟩)) || (decide ((0 : Int) < (hn : Nat)))) with
        | true =>
          have e133' := (hat 89 133 (of_decide_eq_true (by kernel_rfl)) (by kernel_rfl)).trans (hp 89 (by omega))
          have e133 : F.eval (.tmp 133) = .bool (((((((term != 0) || (index != 0)) || (prev != 0)) || (commit != 0)) || (decide ((0 : Int) < (en : Nat)))) || (data != ⟨#[]⟩)) || (decide ((0 : Int) < (hn : Nat)))) := e133'
          have t133 := act_tmp e133
          clear e133'
          rw [qp] at t133
          clear hat hoff hp
          exact wp_value' (.bool true) W (by unfold execOp; go_simp) ⟨_, rfl, rfl, hGW, hrefl W⟩
        | false =>
          have e133' := (hat 89 133 (of_decide_eq_true (by kernel_rfl)) (by kernel_rfl)).trans (hp 89 (by omega))
          have e133 : F.eval (.tmp 133) = .bool (((((((term != 0) || (index != 0)) || (prev != 0)) || (commit != 0)) || (decide ((0 : Int) < (en : Nat)))) || (data != ⟨#[]⟩)) || (decide ((0 : Int) < (hn : Nat)))) := e133'
          have t133 := act_tmp e133
          clear e133'
          rw [qp] at t133
          have e141' := (hat 97 141 (of_decide_eq_true (by kernel_rfl)) (by kernel_rfl)).trans (hp 97 (by omega))
          rw [qp] at e141'
          have e141 : F.eval (.tmp 141) = .bool (site != 0) := e141'
          have t141 := act_tmp e141
          clear e141'
          clear hat hoff hp
          exact wp_value' (.bool (site != 0)) W (by unfold execOp; go_simp) ⟨_, rfl, rfl, hGW, hrefl W⟩
      | 99 =>
        conv at ho => lhs; whnf; arg 1; whnf
        injection ho with ho
        subst ho
        refine on_ (wanted_none rfl) ?_
        have e142' := (hat 98 142 (of_decide_eq_true (by kernel_rfl)) (by kernel_rfl)).trans (hp 98 (by omega))
        have e142 : F.eval (.tmp 142) = .bool ((((((((term != 0) || (index != 0)) || (prev != 0)) || (commit != 0)) || (decide ((0 : Int) < (en : Nat)))) || (data != ⟨#[]⟩)) || (decide ((0 : Int) < (hn : Nat)))) || (site != 0)) := e142'
        have t142 := act_tmp e142
        clear e142'
        exact wp_move' (.tmp 142) rfl ⟨_, rfl, e142, hGW, hrefl W⟩
      | 100 =>
        conv at ho => lhs; whnf; arg 1; whnf
        injection ho with ho
        subst ho
        cases q0 : ((((((((term != 0) || (index != 0)) || (prev != 0)) || (commit != 0)) || (decide ((0 : Int) < (en : Nat)))) || (data != ⟨#[]⟩)) || (decide ((0 : Int) < (hn : Nat)))) || (site != 0)) with
        | true =>
          have eg := (hat 99 143 (of_decide_eq_true (by kernel_rfl)) (by kernel_rfl)).trans (hp 99 (by omega))
          rw [q0] at eg
          exact off_ (W := W) ((wanted_by (c := true) rfl (by kernel_rfl) eg).trans rfl) rfl
        | false =>
          have eg := (hat 99 143 (of_decide_eq_true (by kernel_rfl)) (by kernel_rfl)).trans (hp 99 (by omega))
          rw [q0] at eg
          refine on_ ((wanted_by (c := false) rfl (by kernel_rfl) eg).trans rfl) ?_
          have e4 : F.eval (.tmp 4) = .map (some g) := (hoff 4 (of_decide_eq_true (by kernel_rfl))).trans ha4
          have t4 := act_tmp e4
          exact wp_move' (.tmp 4) rfl ⟨_, rfl, e4, hGW, hrefl W⟩
      | 101 =>
        conv at ho => lhs; whnf; arg 1; whnf
        injection ho with ho
        subst ho
        cases q0 : ((((((((term != 0) || (index != 0)) || (prev != 0)) || (commit != 0)) || (decide ((0 : Int) < (en : Nat)))) || (data != ⟨#[]⟩)) || (decide ((0 : Int) < (hn : Nat)))) || (site != 0)) with
        | true =>
          have eg := (hat 99 143 (of_decide_eq_true (by kernel_rfl)) (by kernel_rfl)).trans (hp 99 (by omega))
          rw [q0] at eg
          exact off_ (W := W) ((wanted_by (c := true) rfl (by kernel_rfl) eg).trans rfl) rfl
        | false =>
          have eg := (hat 99 143 (of_decide_eq_true (by kernel_rfl)) (by kernel_rfl)).trans (hp 99 (by omega))
          rw [q0] at eg
          refine on_ ((wanted_by (c := false) rfl (by kernel_rfl) eg).trans rfl) ?_
          have e144' := (hat 100 144 (of_decide_eq_true (by kernel_rfl)) (by kernel_rfl)).trans (hp 100 (by omega))
          rw [q0] at e144'
          have e144 : F.eval (.tmp 144) = .map (some g) := e144'
          have t144 := act_tmp e144
          clear e144'
          clear hat hoff hp
          have l := HL97.out W hGW.2
          exact wp_value' (.bool true) W (by unfold execOp; go_simp) ⟨_, rfl, rfl, hGW, hrefl W⟩
      | 102 =>
        conv at ho => lhs; whnf; arg 1; whnf
        injection ho with ho
        subst ho
        cases q0 : ((((((((term != 0) || (index != 0)) || (prev != 0)) || (commit != 0)) || (decide ((0 : Int) < (en : Nat)))) || (data != ⟨#[]⟩)) || (decide ((0 : Int) < (hn : Nat)))) || (site != 0)) with
        | true =>
          have eg := (hat 99 143 (of_decide_eq_true (by kernel_rfl)) (by kernel_rfl)).trans (hp 99 (by omega))
          rw [q0] at eg
          exact off_ (W := W) ((wanted_by (c := true) rfl (by kernel_rfl) eg).trans rfl) rfl
        | false =>
          have eg := (hat 99 143 (of_decide_eq_true (by kernel_rfl)) (by kernel_rfl)).trans (hp 99 (by omega))
          rw [q0] at eg
          refine on_ ((wanted_by (c := false) rfl (by kernel_rfl) eg).trans rfl) ?_
          have e145' := (hat 101 145 (of_decide_eq_true (by kernel_rfl)) (by kernel_rfl)).trans (hp 101 (by omega))
          rw [q0] at e145'
          have e145 : F.eval (.tmp 145) = .bool true := e145'
          have t145 := act_tmp e145
          clear e145'
          clear hat hoff hp
          exact wp_value' (.bool false) W (by unfold execOp; go_simp) ⟨_, rfl, rfl, hGW, hrefl W⟩
      | 103 =>
        conv at ho => lhs; whnf; arg 1; whnf
        injection ho with ho
        subst ho
        cases q0 : ((((((((term != 0) || (index != 0)) || (prev != 0)) || (commit != 0)) || (decide ((0 : Int) < (en : Nat)))) || (data != ⟨#[]⟩)) || (decide ((0 : Int) < (hn : Nat)))) || (site != 0)) with
        | true =>
          have eg := (hat 99 143 (of_decide_eq_true (by kernel_rfl)) (by kernel_rfl)).trans (hp 99 (by omega))
          rw [q0] at eg
          exact off_ (W := W) ((wanted_by (c := true) rfl (by kernel_rfl) eg).trans rfl) rfl
        | false =>
          have eg := (hat 99 143 (of_decide_eq_true (by kernel_rfl)) (by kernel_rfl)).trans (hp 99 (by omega))
          rw [q0] at eg
          refine on_ ((wanted_by (c := false) rfl (by kernel_rfl) eg).trans rfl) ?_
          have e146' := (hat 102 146 (of_decide_eq_true (by kernel_rfl)) (by kernel_rfl)).trans (hp 102 (by omega))
          rw [q0] at e146'
          have e146 : F.eval (.tmp 146) = .bool false := e146'
          have t146 := act_tmp e146
          clear e146'
          exact wp_move' (.tmp 146) rfl ⟨_, rfl, e146, hGW, hrefl W⟩
      | 104 =>
        conv at ho => lhs; whnf; arg 1; whnf
        injection ho with ho
        subst ho
        cases q0 : ((((((((term != 0) || (index != 0)) || (prev != 0)) || (commit != 0)) || (decide ((0 : Int) < (en : Nat)))) || (data != ⟨#[]⟩)) || (decide ((0 : Int) < (hn : Nat)))) || (site != 0)) with
        | true =>
          have eg := (hat 103 147 (of_decide_eq_true (by kernel_rfl)) (by kernel_rfl)).trans (hp 103 (by omega))
          rw [q0] at eg
          exact off_ (W := W) (wanted_undef rfl (by kernel_rfl) eg) rfl
        | false =>
          have eg := (hat 103 147 (of_decide_eq_true (by kernel_rfl)) (by kernel_rfl)).trans (hp 103 (by omega))
          rw [q0] at eg
          exact off_ (W := W) ((wanted_by (c := false) rfl (by kernel_rfl) eg).trans rfl) rfl
      | 105 =>
        conv at ho => lhs; whnf; arg 1; whnf
        injection ho with ho
        subst ho
        cases q0 : ((((((((term != 0) || (index != 0)) || (prev != 0)) || (commit != 0)) || (decide ((0 : Int) < (en : Nat)))) || (data != ⟨#[]⟩)) || (decide ((0 : Int) < (hn : Nat)))) || (site != 0)) with
        | true =>
          have eg := (hat 103 147 (of_decide_eq_true (by kernel_rfl)) (by kernel_rfl)).trans (hp 103 (by omega))
          rw [q0] at eg
          exact off_ (W := W) (wanted_undef rfl (by kernel_rfl) eg) rfl
        | false =>
          have eg := (hat 103 147 (of_decide_eq_true (by kernel_rfl)) (by kernel_rfl)).trans (hp 103 (by omega))
          rw [q0] at eg
          exact off_ (W := W) ((wanted_by (c := false) rfl (by kernel_rfl) eg).trans rfl) rfl
      | 106 =>
        conv at ho => lhs; whnf; arg 1; whnf
        injection ho with ho
        subst ho
        cases q0 : ((((((((term != 0) || (index != 0)) || (prev != 0)) || (commit != 0)) || (decide ((0 : Int) < (en : Nat)))) || (data != ⟨#[]⟩)) || (decide ((0 : Int) < (hn : Nat)))) || (site != 0)) with
        | true =>
          have eg := (hat 103 147 (of_decide_eq_true (by kernel_rfl)) (by kernel_rfl)).trans (hp 103 (by omega))
          rw [q0] at eg
          exact off_ (W := W) (wanted_undef rfl (by kernel_rfl) eg) rfl
        | false =>
          have eg := (hat 103 147 (of_decide_eq_true (by kernel_rfl)) (by kernel_rfl)).trans (hp 103 (by omega))
          rw [q0] at eg
          exact off_ (W := W) ((wanted_by (c := false) rfl (by kernel_rfl) eg).trans rfl) rfl
      | 107 =>
        conv at ho => lhs; whnf; arg 1; whnf
        injection ho with ho
        subst ho
        cases q0 : ((((((((term != 0) || (index != 0)) || (prev != 0)) || (commit != 0)) || (decide ((0 : Int) < (en : Nat)))) || (data != ⟨#[]⟩)) || (decide ((0 : Int) < (hn : Nat)))) || (site != 0)) with
        | true =>
          have eg := (hat 103 147 (of_decide_eq_true (by kernel_rfl)) (by kernel_rfl)).trans (hp 103 (by omega))
          rw [q0] at eg
          exact off_ (W := W) (wanted_undef rfl (by kernel_rfl) eg) rfl
        | false =>
          have eg := (hat 103 147 (of_decide_eq_true (by kernel_rfl)) (by kernel_rfl)).trans (hp 103 (by omega))
          rw [q0] at eg
          exact off_ (W := W) ((wanted_by (c := false) rfl (by kernel_rfl) eg).trans rfl) rfl
      | 108 =>
        conv at ho => lhs; whnf; arg 1; whnf
        injection ho with ho
        subst ho
        cases q0 : ((((((((term != 0) || (index != 0)) || (prev != 0)) || (commit != 0)) || (decide ((0 : Int) < (en : Nat)))) || (data != ⟨#[]⟩)) || (decide ((0 : Int) < (hn : Nat)))) || (site != 0)) with
        | true =>
          have eg := (hat 99 143 (of_decide_eq_true (by kernel_rfl)) (by kernel_rfl)).trans (hp 99 (by omega))
          rw [q0] at eg
          exact off_ (W := W) ((wanted_by (c := true) rfl (by kernel_rfl) eg).trans rfl) rfl
        | false =>
          have eg := (hat 99 143 (of_decide_eq_true (by kernel_rfl)) (by kernel_rfl)).trans (hp 99 (by omega))
          rw [q0] at eg
          refine on_ ((wanted_by (c := false) rfl (by kernel_rfl) eg).trans rfl) ?_
          have e147' := (hat 103 147 (of_decide_eq_true (by kernel_rfl)) (by kernel_rfl)).trans (hp 103 (by omega))
          rw [q0] at e147'
          have e147 : F.eval (.tmp 147) = .bool false := e147'
          have t147 := act_tmp e147
          clear e147'
          clear hat hoff hp
          exact wp_value' (.bool false) W (by unfold execOp; go_simp) ⟨_, rfl, rfl, hGW, hrefl W⟩
      | 109 =>
        conv at ho => lhs; whnf; arg 1; whnf
        injection ho with ho
        subst ho
        refine on_ (wanted_none rfl) ?_
        cases qp : ((((((((term != 0) || (index != 0)) || (prev != 0)) || (commit != 0)) || (decide ((0 : Int) < (en : Nat)))) || (data != ⟨#[]⟩)) || (decide ((0 : Int) < (hn : Nat)))) || (site != 0)) with
        | true =>
          have e143' := (hat 99 143 (of_decide_eq_true (by kernel_rfl)) (by kernel_rfl)).trans (hp 99 (by omega))
          have e143 : F.eval (.tmp 143) = .bool ((((((((term != 0) || (index != 0)) || (prev != 0)) || (commit != 0)) || (decide ((0 : Int) < (en : Nat)))) || (data != ⟨#[]⟩)) || (decide ((0 : Int) < (hn : Nat)))) || (site != 0)) := e143'
          have t143 := act_tmp e143
          clear e143'
          rw [qp] at t143
          clear hat hoff hp
          exact wp_value' (.bool true) W (by unfold execOp; go_simp) ⟨_, rfl, rfl, hGW, hrefl W⟩
        | false =>
          have e143' := (hat 99 143 (of_decide_eq_true (by kernel_rfl)) (by kernel_rfl)).trans (hp 99 (by omega))
          have e143 : F.eval (.tmp 143) = .bool ((((((((term != 0) || (index != 0)) || (prev != 0)) || (commit != 0)) || (decide ((0 : Int) < (en : Nat)))) || (data != ⟨#[]⟩)) || (decide ((0 : Int) < (hn : Nat)))) || (site != 0)) := e143'
          have t143 := act_tmp e143
          clear e143'
          rw [qp] at t143
          have e152' := (hat 108 152 (of_decide_eq_true (by kernel_rfl)) (by kernel_rfl)).trans (hp 108 (by omega))
          rw [qp] at e152'
          have e152 : F.eval (.tmp 152) = .bool false := e152'
          have t152 := act_tmp e152
          clear e152'
          clear hat hoff hp
          exact wp_value' (.bool false) W (by unfold execOp; go_simp) ⟨_, rfl, rfl, hGW, hrefl W⟩
      | 110 =>
        conv at ho => lhs; whnf; arg 1; whnf
        injection ho with ho
        subst ho
        refine on_ (wanted_none rfl) ?_
        have e153' := (hat 109 153 (of_decide_eq_true (by kernel_rfl)) (by kernel_rfl)).trans (hp 109 (by omega))
        have e153 : F.eval (.tmp 153) = .bool ((((((((term != 0) || (index != 0)) || (prev != 0)) || (commit != 0)) || (decide ((0 : Int) < (en : Nat)))) || (data != ⟨#[]⟩)) || (decide ((0 : Int) < (hn : Nat)))) || (site != 0)) := e153'
        have t153 := act_tmp e153
        clear e153'
        exact wp_move' (.tmp 153) rfl ⟨_, rfl, e153, hGW, hrefl W⟩
      | 111 =>
        conv at ho => lhs; whnf; arg 1; whnf
        injection ho with ho
        subst ho
        cases q0 : ((((((((term != 0) || (index != 0)) || (prev != 0)) || (commit != 0)) || (decide ((0 : Int) < (en : Nat)))) || (data != ⟨#[]⟩)) || (decide ((0 : Int) < (hn : Nat)))) || (site != 0)) with
        | true =>
          have eg := (hat 110 154 (of_decide_eq_true (by kernel_rfl)) (by kernel_rfl)).trans (hp 110 (by omega))
          rw [q0] at eg
          exact off_ (W := W) ((wanted_by (c := true) rfl (by kernel_rfl) eg).trans rfl) rfl
        | false =>
          have eg := (hat 110 154 (of_decide_eq_true (by kernel_rfl)) (by kernel_rfl)).trans (hp 110 (by omega))
          rw [q0] at eg
          refine on_ ((wanted_by (c := false) rfl (by kernel_rfl) eg).trans rfl) ?_
          have e4 : F.eval (.tmp 4) = .map (some g) := (hoff 4 (of_decide_eq_true (by kernel_rfl))).trans ha4
          have t4 := act_tmp e4
          exact wp_move' (.tmp 4) rfl ⟨_, rfl, e4, hGW, hrefl W⟩
      | 112 =>
        conv at ho => lhs; whnf; arg 1; whnf
        injection ho with ho
        subst ho
        cases q0 : ((((((((term != 0) || (index != 0)) || (prev != 0)) || (commit != 0)) || (decide ((0 : Int) < (en : Nat)))) || (data != ⟨#[]⟩)) || (decide ((0 : Int) < (hn : Nat)))) || (site != 0)) with
        | true =>
          have eg := (hat 110 154 (of_decide_eq_true (by kernel_rfl)) (by kernel_rfl)).trans (hp 110 (by omega))
          rw [q0] at eg
          exact off_ (W := W) ((wanted_by (c := true) rfl (by kernel_rfl) eg).trans rfl) rfl
        | false =>
          have eg := (hat 110 154 (of_decide_eq_true (by kernel_rfl)) (by kernel_rfl)).trans (hp 110 (by omega))
          rw [q0] at eg
          refine on_ ((wanted_by (c := false) rfl (by kernel_rfl) eg).trans rfl) ?_
          have e155' := (hat 111 155 (of_decide_eq_true (by kernel_rfl)) (by kernel_rfl)).trans (hp 111 (by omega))
          rw [q0] at e155'
          have e155 : F.eval (.tmp 155) = .map (some g) := e155'
          have t155 := act_tmp e155
          clear e155'
          clear hat hoff hp
          have l := HL119.out W hGW.2
          exact wp_value' (.bool true) W (by unfold execOp; go_simp) ⟨_, rfl, rfl, hGW, hrefl W⟩
      | 113 =>
        conv at ho => lhs; whnf; arg 1; whnf
        injection ho with ho
        subst ho
        cases q0 : ((((((((term != 0) || (index != 0)) || (prev != 0)) || (commit != 0)) || (decide ((0 : Int) < (en : Nat)))) || (data != ⟨#[]⟩)) || (decide ((0 : Int) < (hn : Nat)))) || (site != 0)) with
        | true =>
          have eg := (hat 110 154 (of_decide_eq_true (by kernel_rfl)) (by kernel_rfl)).trans (hp 110 (by omega))
          rw [q0] at eg
          exact off_ (W := W) ((wanted_by (c := true) rfl (by kernel_rfl) eg).trans rfl) rfl
        | false =>
          have eg := (hat 110 154 (of_decide_eq_true (by kernel_rfl)) (by kernel_rfl)).trans (hp 110 (by omega))
          rw [q0] at eg
          refine on_ ((wanted_by (c := false) rfl (by kernel_rfl) eg).trans rfl) ?_
          have e156' := (hat 112 156 (of_decide_eq_true (by kernel_rfl)) (by kernel_rfl)).trans (hp 112 (by omega))
          rw [q0] at e156'
          have e156 : F.eval (.tmp 156) = .bool true := e156'
          have t156 := act_tmp e156
          clear e156'
          clear hat hoff hp
          exact wp_value' (.bool false) W (by unfold execOp; go_simp) ⟨_, rfl, rfl, hGW, hrefl W⟩
      | 114 =>
        conv at ho => lhs; whnf; arg 1; whnf
        injection ho with ho
        subst ho
        cases q0 : ((((((((term != 0) || (index != 0)) || (prev != 0)) || (commit != 0)) || (decide ((0 : Int) < (en : Nat)))) || (data != ⟨#[]⟩)) || (decide ((0 : Int) < (hn : Nat)))) || (site != 0)) with
        | true =>
          have eg := (hat 110 154 (of_decide_eq_true (by kernel_rfl)) (by kernel_rfl)).trans (hp 110 (by omega))
          rw [q0] at eg
          exact off_ (W := W) ((wanted_by (c := true) rfl (by kernel_rfl) eg).trans rfl) rfl
        | false =>
          have eg := (hat 110 154 (of_decide_eq_true (by kernel_rfl)) (by kernel_rfl)).trans (hp 110 (by omega))
          rw [q0] at eg
          refine on_ ((wanted_by (c := false) rfl (by kernel_rfl) eg).trans rfl) ?_
          have e157' := (hat 113 157 (of_decide_eq_true (by kernel_rfl)) (by kernel_rfl)).trans (hp 113 (by omega))
          rw [q0] at e157'
          have e157 : F.eval (.tmp 157) = .bool false := e157'
          have t157 := act_tmp e157
          clear e157'
          exact wp_move' (.tmp 157) rfl ⟨_, rfl, e157, hGW, hrefl W⟩
      | 115 =>
        conv at ho => lhs; whnf; arg 1; whnf
        injection ho with ho
        subst ho
        cases q0 : ((((((((term != 0) || (index != 0)) || (prev != 0)) || (commit != 0)) || (decide ((0 : Int) < (en : Nat)))) || (data != ⟨#[]⟩)) || (decide ((0 : Int) < (hn : Nat)))) || (site != 0)) with
        | true =>
          have eg := (hat 114 158 (of_decide_eq_true (by kernel_rfl)) (by kernel_rfl)).trans (hp 114 (by omega))
          rw [q0] at eg
          exact off_ (W := W) (wanted_undef rfl (by kernel_rfl) eg) rfl
        | false =>
          have eg := (hat 114 158 (of_decide_eq_true (by kernel_rfl)) (by kernel_rfl)).trans (hp 114 (by omega))
          rw [q0] at eg
          exact off_ (W := W) ((wanted_by (c := false) rfl (by kernel_rfl) eg).trans rfl) rfl
      | 116 =>
        conv at ho => lhs; whnf; arg 1; whnf
        injection ho with ho
        subst ho
        cases q0 : ((((((((term != 0) || (index != 0)) || (prev != 0)) || (commit != 0)) || (decide ((0 : Int) < (en : Nat)))) || (data != ⟨#[]⟩)) || (decide ((0 : Int) < (hn : Nat)))) || (site != 0)) with
        | true =>
          have eg := (hat 114 158 (of_decide_eq_true (by kernel_rfl)) (by kernel_rfl)).trans (hp 114 (by omega))
          rw [q0] at eg
          exact off_ (W := W) (wanted_undef rfl (by kernel_rfl) eg) rfl
        | false =>
          have eg := (hat 114 158 (of_decide_eq_true (by kernel_rfl)) (by kernel_rfl)).trans (hp 114 (by omega))
          rw [q0] at eg
          exact off_ (W := W) ((wanted_by (c := false) rfl (by kernel_rfl) eg).trans rfl) rfl
      | 117 =>
        conv at ho => lhs; whnf; arg 1; whnf
        injection ho with ho
        subst ho
        cases q0 : ((((((((term != 0) || (index != 0)) || (prev != 0)) || (commit != 0)) || (decide ((0 : Int) < (en : Nat)))) || (data != ⟨#[]⟩)) || (decide ((0 : Int) < (hn : Nat)))) || (site != 0)) with
        | true =>
          have eg := (hat 114 158 (of_decide_eq_true (by kernel_rfl)) (by kernel_rfl)).trans (hp 114 (by omega))
          rw [q0] at eg
          exact off_ (W := W) (wanted_undef rfl (by kernel_rfl) eg) rfl
        | false =>
          have eg := (hat 114 158 (of_decide_eq_true (by kernel_rfl)) (by kernel_rfl)).trans (hp 114 (by omega))
          rw [q0] at eg
          exact off_ (W := W) ((wanted_by (c := false) rfl (by kernel_rfl) eg).trans rfl) rfl
      | 118 =>
        conv at ho => lhs; whnf; arg 1; whnf
        injection ho with ho
        subst ho
        cases q0 : ((((((((term != 0) || (index != 0)) || (prev != 0)) || (commit != 0)) || (decide ((0 : Int) < (en : Nat)))) || (data != ⟨#[]⟩)) || (decide ((0 : Int) < (hn : Nat)))) || (site != 0)) with
        | true =>
          have eg := (hat 114 158 (of_decide_eq_true (by kernel_rfl)) (by kernel_rfl)).trans (hp 114 (by omega))
          rw [q0] at eg
          exact off_ (W := W) (wanted_undef rfl (by kernel_rfl) eg) rfl
        | false =>
          have eg := (hat 114 158 (of_decide_eq_true (by kernel_rfl)) (by kernel_rfl)).trans (hp 114 (by omega))
          rw [q0] at eg
          exact off_ (W := W) ((wanted_by (c := false) rfl (by kernel_rfl) eg).trans rfl) rfl
      | 119 =>
        conv at ho => lhs; whnf; arg 1; whnf
        injection ho with ho
        subst ho
        cases q0 : ((((((((term != 0) || (index != 0)) || (prev != 0)) || (commit != 0)) || (decide ((0 : Int) < (en : Nat)))) || (data != ⟨#[]⟩)) || (decide ((0 : Int) < (hn : Nat)))) || (site != 0)) with
        | true =>
          have eg := (hat 110 154 (of_decide_eq_true (by kernel_rfl)) (by kernel_rfl)).trans (hp 110 (by omega))
          rw [q0] at eg
          exact off_ (W := W) ((wanted_by (c := true) rfl (by kernel_rfl) eg).trans rfl) rfl
        | false =>
          have eg := (hat 110 154 (of_decide_eq_true (by kernel_rfl)) (by kernel_rfl)).trans (hp 110 (by omega))
          rw [q0] at eg
          refine on_ ((wanted_by (c := false) rfl (by kernel_rfl) eg).trans rfl) ?_
          have e158' := (hat 114 158 (of_decide_eq_true (by kernel_rfl)) (by kernel_rfl)).trans (hp 114 (by omega))
          rw [q0] at e158'
          have e158 : F.eval (.tmp 158) = .bool false := e158'
          have t158 := act_tmp e158
          clear e158'
          clear hat hoff hp
          exact wp_value' (.bool false) W (by unfold execOp; go_simp) ⟨_, rfl, rfl, hGW, hrefl W⟩
      | 120 =>
        conv at ho => lhs; whnf; arg 1; whnf
        injection ho with ho
        subst ho
        refine on_ (wanted_none rfl) ?_
        cases qp : ((((((((term != 0) || (index != 0)) || (prev != 0)) || (commit != 0)) || (decide ((0 : Int) < (en : Nat)))) || (data != ⟨#[]⟩)) || (decide ((0 : Int) < (hn : Nat)))) || (site != 0)) with
        | true =>
          have e154' := (hat 110 154 (of_decide_eq_true (by kernel_rfl)) (by kernel_rfl)).trans (hp 110 (by omega))
          have e154 : F.eval (.tmp 154) = .bool ((((((((term != 0) || (index != 0)) || (prev != 0)) || (commit != 0)) || (decide ((0 : Int) < (en : Nat)))) || (data != ⟨#[]⟩)) || (decide ((0 : Int) < (hn : Nat)))) || (site != 0)) := e154'
          have t154 := act_tmp e154
          clear e154'
          rw [qp] at t154
          clear hat hoff hp
          exact wp_value' (.bool true) W (by unfold execOp; go_simp) ⟨_, rfl, rfl, hGW, hrefl W⟩
        | false =>
          have e154' := (hat 110 154 (of_decide_eq_true (by kernel_rfl)) (by kernel_rfl)).trans (hp 110 (by omega))
          have e154 : F.eval (.tmp 154) = .bool ((((((((term != 0) || (index != 0)) || (prev != 0)) || (commit != 0)) || (decide ((0 : Int) < (en : Nat)))) || (data != ⟨#[]⟩)) || (decide ((0 : Int) < (hn : Nat)))) || (site != 0)) := e154'
          have t154 := act_tmp e154
          clear e154'
          rw [qp] at t154
          have e163' := (hat 119 163 (of_decide_eq_true (by kernel_rfl)) (by kernel_rfl)).trans (hp 119 (by omega))
          rw [qp] at e163'
          have e163 : F.eval (.tmp 163) = .bool false := e163'
          have t163 := act_tmp e163
          clear e163'
          clear hat hoff hp
          exact wp_value' (.bool false) W (by unfold execOp; go_simp) ⟨_, rfl, rfl, hGW, hrefl W⟩
      | 121 =>
        conv at ho => lhs; whnf; arg 1; whnf
        injection ho with ho
        subst ho
        refine on_ (wanted_none rfl) ?_
        have e164' := (hat 120 164 (of_decide_eq_true (by kernel_rfl)) (by kernel_rfl)).trans (hp 120 (by omega))
        have e164 : F.eval (.tmp 164) = .bool ((((((((term != 0) || (index != 0)) || (prev != 0)) || (commit != 0)) || (decide ((0 : Int) < (en : Nat)))) || (data != ⟨#[]⟩)) || (decide ((0 : Int) < (hn : Nat)))) || (site != 0)) := e164'
        have t164 := act_tmp e164
        clear e164'
        exact wp_move' (.tmp 164) rfl ⟨_, rfl, e164, hGW, hrefl W⟩
      | 122 =>
        conv at ho => lhs; whnf; arg 1; whnf
        injection ho with ho
        subst ho
        cases q0 : ((((((((term != 0) || (index != 0)) || (prev != 0)) || (commit != 0)) || (decide ((0 : Int) < (en : Nat)))) || (data != ⟨#[]⟩)) || (decide ((0 : Int) < (hn : Nat)))) || (site != 0)) with
        | true =>
          have eg := (hat 121 165 (of_decide_eq_true (by kernel_rfl)) (by kernel_rfl)).trans (hp 121 (by omega))
          rw [q0] at eg
          exact off_ (W := W) ((wanted_by (c := true) rfl (by kernel_rfl) eg).trans rfl) rfl
        | false =>
          have eg := (hat 121 165 (of_decide_eq_true (by kernel_rfl)) (by kernel_rfl)).trans (hp 121 (by omega))
          rw [q0] at eg
          refine on_ ((wanted_by (c := false) rfl (by kernel_rfl) eg).trans rfl) ?_
          have e4 : F.eval (.tmp 4) = .map (some g) := (hoff 4 (of_decide_eq_true (by kernel_rfl))).trans ha4
          have t4 := act_tmp e4
          exact wp_move' (.tmp 4) rfl ⟨_, rfl, e4, hGW, hrefl W⟩
      | 123 =>
        conv at ho => lhs; whnf; arg 1; whnf
        injection ho with ho
        subst ho
        cases q0 : ((((((((term != 0) || (index != 0)) || (prev != 0)) || (commit != 0)) || (decide ((0 : Int) < (en : Nat)))) || (data != ⟨#[]⟩)) || (decide ((0 : Int) < (hn : Nat)))) || (site != 0)) with
        | true =>
          have eg := (hat 121 165 (of_decide_eq_true (by kernel_rfl)) (by kernel_rfl)).trans (hp 121 (by omega))
          rw [q0] at eg
          exact off_ (W := W) ((wanted_by (c := true) rfl (by kernel_rfl) eg).trans rfl) rfl
        | false =>
          have eg := (hat 121 165 (of_decide_eq_true (by kernel_rfl)) (by kernel_rfl)).trans (hp 121 (by omega))
          rw [q0] at eg
          refine on_ ((wanted_by (c := false) rfl (by kernel_rfl) eg).trans rfl) ?_
          have e166' := (hat 122 166 (of_decide_eq_true (by kernel_rfl)) (by kernel_rfl)).trans (hp 122 (by omega))
          rw [q0] at e166'
          have e166 : F.eval (.tmp 166) = .map (some g) := e166'
          have t166 := act_tmp e166
          clear e166'
          clear hat hoff hp
          have l := HL79.out W hGW.2
          exact wp_value' (.bool false) W (by unfold execOp; go_simp) ⟨_, rfl, rfl, hGW, hrefl W⟩
      | 124 =>
        conv at ho => lhs; whnf; arg 1; whnf
        injection ho with ho
        subst ho
        cases q0 : ((((((((term != 0) || (index != 0)) || (prev != 0)) || (commit != 0)) || (decide ((0 : Int) < (en : Nat)))) || (data != ⟨#[]⟩)) || (decide ((0 : Int) < (hn : Nat)))) || (site != 0)) with
        | true =>
          have eg := (hat 121 165 (of_decide_eq_true (by kernel_rfl)) (by kernel_rfl)).trans (hp 121 (by omega))
          rw [q0] at eg
          exact off_ (W := W) ((wanted_by (c := true) rfl (by kernel_rfl) eg).trans rfl) rfl
        | false =>
          have eg := (hat 121 165 (of_decide_eq_true (by kernel_rfl)) (by kernel_rfl)).trans (hp 121 (by omega))
          rw [q0] at eg
          refine on_ ((wanted_by (c := false) rfl (by kernel_rfl) eg).trans rfl) ?_
          have e167' := (hat 123 167 (of_decide_eq_true (by kernel_rfl)) (by kernel_rfl)).trans (hp 123 (by omega))
          rw [q0] at e167'
          have e167 : F.eval (.tmp 167) = .bool false := e167'
          have t167 := act_tmp e167
          clear e167'
          clear hat hoff hp
          exact wp_value' (.bool true) W (by unfold execOp; go_simp) ⟨_, rfl, rfl, hGW, hrefl W⟩
      | 125 =>
        conv at ho => lhs; whnf; arg 1; whnf
        injection ho with ho
        subst ho
        cases q0 : ((((((((term != 0) || (index != 0)) || (prev != 0)) || (commit != 0)) || (decide ((0 : Int) < (en : Nat)))) || (data != ⟨#[]⟩)) || (decide ((0 : Int) < (hn : Nat)))) || (site != 0)) with
        | true =>
          have eg := (hat 121 165 (of_decide_eq_true (by kernel_rfl)) (by kernel_rfl)).trans (hp 121 (by omega))
          rw [q0] at eg
          exact off_ (W := W) ((wanted_by (c := true) rfl (by kernel_rfl) eg).trans rfl) rfl
        | false =>
          have eg := (hat 121 165 (of_decide_eq_true (by kernel_rfl)) (by kernel_rfl)).trans (hp 121 (by omega))
          rw [q0] at eg
          refine on_ ((wanted_by (c := false) rfl (by kernel_rfl) eg).trans rfl) ?_
          have e168' := (hat 124 168 (of_decide_eq_true (by kernel_rfl)) (by kernel_rfl)).trans (hp 124 (by omega))
          rw [q0] at e168'
          have e168 : F.eval (.tmp 168) = .bool true := e168'
          have t168 := act_tmp e168
          clear e168'
          exact wp_move' (.tmp 168) rfl ⟨_, rfl, e168, hGW, hrefl W⟩
      | 126 =>
        conv at ho => lhs; whnf; arg 1; whnf
        injection ho with ho
        subst ho
        cases q0 : ((((((((term != 0) || (index != 0)) || (prev != 0)) || (commit != 0)) || (decide ((0 : Int) < (en : Nat)))) || (data != ⟨#[]⟩)) || (decide ((0 : Int) < (hn : Nat)))) || (site != 0)) with
        | true =>
          have eg := (hat 125 169 (of_decide_eq_true (by kernel_rfl)) (by kernel_rfl)).trans (hp 125 (by omega))
          rw [q0] at eg
          exact off_ (W := W) (wanted_undef rfl (by kernel_rfl) eg) rfl
        | false =>
          have eg := (hat 125 169 (of_decide_eq_true (by kernel_rfl)) (by kernel_rfl)).trans (hp 125 (by omega))
          rw [q0] at eg
          refine on_ ((wanted_by (c := true) rfl (by kernel_rfl) eg).trans rfl) ?_
          have e1 : F.eval (.tmp 1) = .pointer (some ⟨mb, 0, none⟩) := (hoff 1 (of_decide_eq_true (by kernel_rfl))).trans ha1
          have t1 := act_tmp e1
          clear hat hoff hp
          exact wp_value' (.pointer (some ⟨mb, 16, none⟩)) W (by unfold execOp; go_simp) ⟨_, rfl, rfl, hGW, hrefl W⟩
      | 127 =>
        conv at ho => lhs; whnf; arg 1; whnf
        injection ho with ho
        subst ho
        cases q0 : ((((((((term != 0) || (index != 0)) || (prev != 0)) || (commit != 0)) || (decide ((0 : Int) < (en : Nat)))) || (data != ⟨#[]⟩)) || (decide ((0 : Int) < (hn : Nat)))) || (site != 0)) with
        | true =>
          have eg := (hat 125 169 (of_decide_eq_true (by kernel_rfl)) (by kernel_rfl)).trans (hp 125 (by omega))
          rw [q0] at eg
          exact off_ (W := W) (wanted_undef rfl (by kernel_rfl) eg) rfl
        | false =>
          have eg := (hat 125 169 (of_decide_eq_true (by kernel_rfl)) (by kernel_rfl)).trans (hp 125 (by omega))
          rw [q0] at eg
          refine on_ ((wanted_by (c := true) rfl (by kernel_rfl) eg).trans rfl) ?_
          have e170' := (hat 126 170 (of_decide_eq_true (by kernel_rfl)) (by kernel_rfl)).trans (hp 126 (by omega))
          rw [q0] at e170'
          have e170 : F.eval (.tmp 170) = .pointer (some ⟨mb, 16, none⟩) := e170'
          have t170 := act_tmp e170
          clear e170'
          clear hat hoff hp
          have d := hGW.1.cell 16
          simp at d
          exact wp_value' (.slice pA pn pc) W (by unfold execOp; go_simp) ⟨_, rfl, rfl, hGW, hrefl W⟩
      | 128 =>
        conv at ho => lhs; whnf; arg 1; whnf
        injection ho with ho
        subst ho
        cases q0 : ((((((((term != 0) || (index != 0)) || (prev != 0)) || (commit != 0)) || (decide ((0 : Int) < (en : Nat)))) || (data != ⟨#[]⟩)) || (decide ((0 : Int) < (hn : Nat)))) || (site != 0)) with
        | true =>
          have eg := (hat 125 169 (of_decide_eq_true (by kernel_rfl)) (by kernel_rfl)).trans (hp 125 (by omega))
          rw [q0] at eg
          exact off_ (W := W) (wanted_undef rfl (by kernel_rfl) eg) rfl
        | false =>
          have eg := (hat 125 169 (of_decide_eq_true (by kernel_rfl)) (by kernel_rfl)).trans (hp 125 (by omega))
          rw [q0] at eg
          refine on_ ((wanted_by (c := true) rfl (by kernel_rfl) eg).trans rfl) ?_
          have e171' := (hat 127 171 (of_decide_eq_true (by kernel_rfl)) (by kernel_rfl)).trans (hp 127 (by omega))
          rw [q0] at e171'
          have e171 : F.eval (.tmp 171) = .slice pA pn pc := e171'
          have t171 := act_tmp e171
          clear e171'
          clear hat hoff hp
          exact wp_value' (.int .i64 (pn : Nat)) W (by unfold execOp; go_simp) ⟨_, rfl, rfl, hGW, hrefl W⟩
      | 129 =>
        conv at ho => lhs; whnf; arg 1; whnf
        injection ho with ho
        subst ho
        cases q0 : ((((((((term != 0) || (index != 0)) || (prev != 0)) || (commit != 0)) || (decide ((0 : Int) < (en : Nat)))) || (data != ⟨#[]⟩)) || (decide ((0 : Int) < (hn : Nat)))) || (site != 0)) with
        | true =>
          have eg := (hat 125 169 (of_decide_eq_true (by kernel_rfl)) (by kernel_rfl)).trans (hp 125 (by omega))
          rw [q0] at eg
          exact off_ (W := W) (wanted_undef rfl (by kernel_rfl) eg) rfl
        | false =>
          have eg := (hat 125 169 (of_decide_eq_true (by kernel_rfl)) (by kernel_rfl)).trans (hp 125 (by omega))
          rw [q0] at eg
          refine on_ ((wanted_by (c := true) rfl (by kernel_rfl) eg).trans rfl) ?_
          have e172' := (hat 128 172 (of_decide_eq_true (by kernel_rfl)) (by kernel_rfl)).trans (hp 128 (by omega))
          rw [q0] at e172'
          have e172 : F.eval (.tmp 172) = .int .i64 (pn : Nat) := e172'
          have t172 := act_tmp e172
          clear e172'
          clear hat hoff hp
          exact wp_value' (.bool (decide ((0 : Int) < (pn : Nat)))) W (by unfold execOp; go_simp) ⟨_, rfl, rfl, hGW, hrefl W⟩
      | 130 =>
        conv at ho => lhs; whnf; arg 1; whnf
        injection ho with ho
        subst ho
        cases q0 : ((((((((term != 0) || (index != 0)) || (prev != 0)) || (commit != 0)) || (decide ((0 : Int) < (en : Nat)))) || (data != ⟨#[]⟩)) || (decide ((0 : Int) < (hn : Nat)))) || (site != 0)) with
        | true =>
          have eg := (hat 121 165 (of_decide_eq_true (by kernel_rfl)) (by kernel_rfl)).trans (hp 121 (by omega))
          rw [q0] at eg
          exact off_ (W := W) ((wanted_by (c := true) rfl (by kernel_rfl) eg).trans rfl) rfl
        | false =>
          have eg := (hat 121 165 (of_decide_eq_true (by kernel_rfl)) (by kernel_rfl)).trans (hp 121 (by omega))
          rw [q0] at eg
          refine on_ ((wanted_by (c := false) rfl (by kernel_rfl) eg).trans rfl) ?_
          have e169' := (hat 125 169 (of_decide_eq_true (by kernel_rfl)) (by kernel_rfl)).trans (hp 125 (by omega))
          rw [q0] at e169'
          have e169 : F.eval (.tmp 169) = .bool true := e169'
          have t169 := act_tmp e169
          clear e169'
          have e173' := (hat 129 173 (of_decide_eq_true (by kernel_rfl)) (by kernel_rfl)).trans (hp 129 (by omega))
          rw [q0] at e173'
          have e173 : F.eval (.tmp 173) = .bool (decide ((0 : Int) < (pn : Nat))) := e173'
          have t173 := act_tmp e173
          clear e173'
          clear hat hoff hp
          exact wp_value' (.bool (decide ((0 : Int) < (pn : Nat)))) W (by unfold execOp; go_simp) ⟨_, rfl, rfl, hGW, hrefl W⟩
      | 131 =>
        conv at ho => lhs; whnf; arg 1; whnf
        injection ho with ho
        subst ho
        refine on_ (wanted_none rfl) ?_
        cases qp : ((((((((term != 0) || (index != 0)) || (prev != 0)) || (commit != 0)) || (decide ((0 : Int) < (en : Nat)))) || (data != ⟨#[]⟩)) || (decide ((0 : Int) < (hn : Nat)))) || (site != 0)) with
        | true =>
          have e165' := (hat 121 165 (of_decide_eq_true (by kernel_rfl)) (by kernel_rfl)).trans (hp 121 (by omega))
          have e165 : F.eval (.tmp 165) = .bool ((((((((term != 0) || (index != 0)) || (prev != 0)) || (commit != 0)) || (decide ((0 : Int) < (en : Nat)))) || (data != ⟨#[]⟩)) || (decide ((0 : Int) < (hn : Nat)))) || (site != 0)) := e165'
          have t165 := act_tmp e165
          clear e165'
          rw [qp] at t165
          clear hat hoff hp
          exact wp_value' (.bool true) W (by unfold execOp; go_simp) ⟨_, rfl, rfl, hGW, hrefl W⟩
        | false =>
          have e165' := (hat 121 165 (of_decide_eq_true (by kernel_rfl)) (by kernel_rfl)).trans (hp 121 (by omega))
          have e165 : F.eval (.tmp 165) = .bool ((((((((term != 0) || (index != 0)) || (prev != 0)) || (commit != 0)) || (decide ((0 : Int) < (en : Nat)))) || (data != ⟨#[]⟩)) || (decide ((0 : Int) < (hn : Nat)))) || (site != 0)) := e165'
          have t165 := act_tmp e165
          clear e165'
          rw [qp] at t165
          have e174' := (hat 130 174 (of_decide_eq_true (by kernel_rfl)) (by kernel_rfl)).trans (hp 130 (by omega))
          rw [qp] at e174'
          have e174 : F.eval (.tmp 174) = .bool (decide ((0 : Int) < (pn : Nat))) := e174'
          have t174 := act_tmp e174
          clear e174'
          clear hat hoff hp
          exact wp_value' (.bool (decide ((0 : Int) < (pn : Nat)))) W (by unfold execOp; go_simp) ⟨_, rfl, rfl, hGW, hrefl W⟩
      | 132 =>
        conv at ho => lhs; whnf; arg 1; whnf
        injection ho with ho
        subst ho
        refine on_ (wanted_none rfl) ?_
        have e175' := (hat 131 175 (of_decide_eq_true (by kernel_rfl)) (by kernel_rfl)).trans (hp 131 (by omega))
        have e175 : F.eval (.tmp 175) = .bool (((((((((term != 0) || (index != 0)) || (prev != 0)) || (commit != 0)) || (decide ((0 : Int) < (en : Nat)))) || (data != ⟨#[]⟩)) || (decide ((0 : Int) < (hn : Nat)))) || (site != 0)) || (decide ((0 : Int) < (pn : Nat)))) := e175'
        have t175 := act_tmp e175
        clear e175'
        exact wp_move' (.tmp 175) rfl ⟨_, rfl, e175, hGW, hrefl W⟩
      | 133 =>
        conv at ho => lhs; whnf; arg 1; whnf
        injection ho with ho
        subst ho
        cases q0 : (((((((((term != 0) || (index != 0)) || (prev != 0)) || (commit != 0)) || (decide ((0 : Int) < (en : Nat)))) || (data != ⟨#[]⟩)) || (decide ((0 : Int) < (hn : Nat)))) || (site != 0)) || (decide ((0 : Int) < (pn : Nat)))) with
        | true =>
          have eg := (hat 132 176 (of_decide_eq_true (by kernel_rfl)) (by kernel_rfl)).trans (hp 132 (by omega))
          rw [q0] at eg
          exact off_ (W := W) ((wanted_by (c := true) rfl (by kernel_rfl) eg).trans rfl) rfl
        | false =>
          have eg := (hat 132 176 (of_decide_eq_true (by kernel_rfl)) (by kernel_rfl)).trans (hp 132 (by omega))
          rw [q0] at eg
          refine on_ ((wanted_by (c := false) rfl (by kernel_rfl) eg).trans rfl) ?_
          have e4 : F.eval (.tmp 4) = .map (some g) := (hoff 4 (of_decide_eq_true (by kernel_rfl))).trans ha4
          have t4 := act_tmp e4
          exact wp_move' (.tmp 4) rfl ⟨_, rfl, e4, hGW, hrefl W⟩
      | 134 =>
        conv at ho => lhs; whnf; arg 1; whnf
        injection ho with ho
        subst ho
        cases q0 : (((((((((term != 0) || (index != 0)) || (prev != 0)) || (commit != 0)) || (decide ((0 : Int) < (en : Nat)))) || (data != ⟨#[]⟩)) || (decide ((0 : Int) < (hn : Nat)))) || (site != 0)) || (decide ((0 : Int) < (pn : Nat)))) with
        | true =>
          have eg := (hat 132 176 (of_decide_eq_true (by kernel_rfl)) (by kernel_rfl)).trans (hp 132 (by omega))
          rw [q0] at eg
          exact off_ (W := W) ((wanted_by (c := true) rfl (by kernel_rfl) eg).trans rfl) rfl
        | false =>
          have eg := (hat 132 176 (of_decide_eq_true (by kernel_rfl)) (by kernel_rfl)).trans (hp 132 (by omega))
          rw [q0] at eg
          refine on_ ((wanted_by (c := false) rfl (by kernel_rfl) eg).trans rfl) ?_
          have e177' := (hat 133 177 (of_decide_eq_true (by kernel_rfl)) (by kernel_rfl)).trans (hp 133 (by omega))
          rw [q0] at e177'
          have e177 : F.eval (.tmp 177) = .map (some g) := e177'
          have t177 := act_tmp e177
          clear e177'
          clear hat hoff hp
          have l := HL72.out W hGW.2
          exact wp_value' (.bool true) W (by unfold execOp; go_simp) ⟨_, rfl, rfl, hGW, hrefl W⟩
      | 135 =>
        conv at ho => lhs; whnf; arg 1; whnf
        injection ho with ho
        subst ho
        cases q0 : (((((((((term != 0) || (index != 0)) || (prev != 0)) || (commit != 0)) || (decide ((0 : Int) < (en : Nat)))) || (data != ⟨#[]⟩)) || (decide ((0 : Int) < (hn : Nat)))) || (site != 0)) || (decide ((0 : Int) < (pn : Nat)))) with
        | true =>
          have eg := (hat 132 176 (of_decide_eq_true (by kernel_rfl)) (by kernel_rfl)).trans (hp 132 (by omega))
          rw [q0] at eg
          exact off_ (W := W) ((wanted_by (c := true) rfl (by kernel_rfl) eg).trans rfl) rfl
        | false =>
          have eg := (hat 132 176 (of_decide_eq_true (by kernel_rfl)) (by kernel_rfl)).trans (hp 132 (by omega))
          rw [q0] at eg
          refine on_ ((wanted_by (c := false) rfl (by kernel_rfl) eg).trans rfl) ?_
          have e178' := (hat 134 178 (of_decide_eq_true (by kernel_rfl)) (by kernel_rfl)).trans (hp 134 (by omega))
          rw [q0] at e178'
          have e178 : F.eval (.tmp 178) = .bool true := e178'
          have t178 := act_tmp e178
          clear e178'
          clear hat hoff hp
          exact wp_value' (.bool false) W (by unfold execOp; go_simp) ⟨_, rfl, rfl, hGW, hrefl W⟩
      | 136 =>
        conv at ho => lhs; whnf; arg 1; whnf
        injection ho with ho
        subst ho
        cases q0 : (((((((((term != 0) || (index != 0)) || (prev != 0)) || (commit != 0)) || (decide ((0 : Int) < (en : Nat)))) || (data != ⟨#[]⟩)) || (decide ((0 : Int) < (hn : Nat)))) || (site != 0)) || (decide ((0 : Int) < (pn : Nat)))) with
        | true =>
          have eg := (hat 132 176 (of_decide_eq_true (by kernel_rfl)) (by kernel_rfl)).trans (hp 132 (by omega))
          rw [q0] at eg
          exact off_ (W := W) ((wanted_by (c := true) rfl (by kernel_rfl) eg).trans rfl) rfl
        | false =>
          have eg := (hat 132 176 (of_decide_eq_true (by kernel_rfl)) (by kernel_rfl)).trans (hp 132 (by omega))
          rw [q0] at eg
          refine on_ ((wanted_by (c := false) rfl (by kernel_rfl) eg).trans rfl) ?_
          have e179' := (hat 135 179 (of_decide_eq_true (by kernel_rfl)) (by kernel_rfl)).trans (hp 135 (by omega))
          rw [q0] at e179'
          have e179 : F.eval (.tmp 179) = .bool false := e179'
          have t179 := act_tmp e179
          clear e179'
          exact wp_move' (.tmp 179) rfl ⟨_, rfl, e179, hGW, hrefl W⟩
      | 137 =>
        conv at ho => lhs; whnf; arg 1; whnf
        injection ho with ho
        subst ho
        cases q0 : (((((((((term != 0) || (index != 0)) || (prev != 0)) || (commit != 0)) || (decide ((0 : Int) < (en : Nat)))) || (data != ⟨#[]⟩)) || (decide ((0 : Int) < (hn : Nat)))) || (site != 0)) || (decide ((0 : Int) < (pn : Nat)))) with
        | true =>
          have eg := (hat 136 180 (of_decide_eq_true (by kernel_rfl)) (by kernel_rfl)).trans (hp 136 (by omega))
          rw [q0] at eg
          exact off_ (W := W) (wanted_undef rfl (by kernel_rfl) eg) rfl
        | false =>
          have eg := (hat 136 180 (of_decide_eq_true (by kernel_rfl)) (by kernel_rfl)).trans (hp 136 (by omega))
          rw [q0] at eg
          exact off_ (W := W) ((wanted_by (c := false) rfl (by kernel_rfl) eg).trans rfl) rfl
      | 138 =>
        conv at ho => lhs; whnf; arg 1; whnf
        injection ho with ho
        subst ho
        cases q0 : (((((((((term != 0) || (index != 0)) || (prev != 0)) || (commit != 0)) || (decide ((0 : Int) < (en : Nat)))) || (data != ⟨#[]⟩)) || (decide ((0 : Int) < (hn : Nat)))) || (site != 0)) || (decide ((0 : Int) < (pn : Nat)))) with
        | true =>
          have eg := (hat 136 180 (of_decide_eq_true (by kernel_rfl)) (by kernel_rfl)).trans (hp 136 (by omega))
          rw [q0] at eg
          exact off_ (W := W) (wanted_undef rfl (by kernel_rfl) eg) rfl
        | false =>
          have eg := (hat 136 180 (of_decide_eq_true (by kernel_rfl)) (by kernel_rfl)).trans (hp 136 (by omega))
          rw [q0] at eg
          exact off_ (W := W) ((wanted_by (c := false) rfl (by kernel_rfl) eg).trans rfl) rfl
      | 139 =>
        conv at ho => lhs; whnf; arg 1; whnf
        injection ho with ho
        subst ho
        cases q0 : (((((((((term != 0) || (index != 0)) || (prev != 0)) || (commit != 0)) || (decide ((0 : Int) < (en : Nat)))) || (data != ⟨#[]⟩)) || (decide ((0 : Int) < (hn : Nat)))) || (site != 0)) || (decide ((0 : Int) < (pn : Nat)))) with
        | true =>
          have eg := (hat 136 180 (of_decide_eq_true (by kernel_rfl)) (by kernel_rfl)).trans (hp 136 (by omega))
          rw [q0] at eg
          exact off_ (W := W) (wanted_undef rfl (by kernel_rfl) eg) rfl
        | false =>
          have eg := (hat 136 180 (of_decide_eq_true (by kernel_rfl)) (by kernel_rfl)).trans (hp 136 (by omega))
          rw [q0] at eg
          exact off_ (W := W) ((wanted_by (c := false) rfl (by kernel_rfl) eg).trans rfl) rfl
      | 140 =>
        conv at ho => lhs; whnf; arg 1; whnf
        injection ho with ho
        subst ho
        cases q0 : (((((((((term != 0) || (index != 0)) || (prev != 0)) || (commit != 0)) || (decide ((0 : Int) < (en : Nat)))) || (data != ⟨#[]⟩)) || (decide ((0 : Int) < (hn : Nat)))) || (site != 0)) || (decide ((0 : Int) < (pn : Nat)))) with
        | true =>
          have eg := (hat 136 180 (of_decide_eq_true (by kernel_rfl)) (by kernel_rfl)).trans (hp 136 (by omega))
          rw [q0] at eg
          exact off_ (W := W) (wanted_undef rfl (by kernel_rfl) eg) rfl
        | false =>
          have eg := (hat 136 180 (of_decide_eq_true (by kernel_rfl)) (by kernel_rfl)).trans (hp 136 (by omega))
          rw [q0] at eg
          exact off_ (W := W) ((wanted_by (c := false) rfl (by kernel_rfl) eg).trans rfl) rfl
      | 141 =>
        conv at ho => lhs; whnf; arg 1; whnf
        injection ho with ho
        subst ho
        cases q0 : (((((((((term != 0) || (index != 0)) || (prev != 0)) || (commit != 0)) || (decide ((0 : Int) < (en : Nat)))) || (data != ⟨#[]⟩)) || (decide ((0 : Int) < (hn : Nat)))) || (site != 0)) || (decide ((0 : Int) < (pn : Nat)))) with
        | true =>
          have eg := (hat 132 176 (of_decide_eq_true (by kernel_rfl)) (by kernel_rfl)).trans (hp 132 (by omega))
          rw [q0] at eg
          exact off_ (W := W) ((wanted_by (c := true) rfl (by kernel_rfl) eg).trans rfl) rfl
        | false =>
          have eg := (hat 132 176 (of_decide_eq_true (by kernel_rfl)) (by kernel_rfl)).trans (hp 132 (by omega))
          rw [q0] at eg
          refine on_ ((wanted_by (c := false) rfl (by kernel_rfl) eg).trans rfl) ?_
          have e180' := (hat 136 180 (of_decide_eq_true (by kernel_rfl)) (by kernel_rfl)).trans (hp 136 (by omega))
          rw [q0] at e180'
          have e180 : F.eval (.tmp 180) = .bool false := e180'
          have t180 := act_tmp e180
          clear e180'
          clear hat hoff hp
          exact wp_value' (.bool false) W (by unfold execOp; go_simp) ⟨_, rfl, rfl, hGW, hrefl W⟩
      | 142 =>
        conv at ho => lhs; whnf; arg 1; whnf
        injection ho with ho
        subst ho
        refine on_ (wanted_none rfl) ?_
        cases qp : (((((((((term != 0) || (index != 0)) || (prev != 0)) || (commit != 0)) || (decide ((0 : Int) < (en : Nat)))) || (data != ⟨#[]⟩)) || (decide ((0 : Int) < (hn : Nat)))) || (site != 0)) || (decide ((0 : Int) < (pn : Nat)))) with
        | true =>
          have e176' := (hat 132 176 (of_decide_eq_true (by kernel_rfl)) (by kernel_rfl)).trans (hp 132 (by omega))
          have e176 : F.eval (.tmp 176) = .bool (((((((((term != 0) || (index != 0)) || (prev != 0)) || (commit != 0)) || (decide ((0 : Int) < (en : Nat)))) || (data != ⟨#[]⟩)) || (decide ((0 : Int) < (hn : Nat)))) || (site != 0)) || (decide ((0 : Int) < (pn : Nat)))) := e176'
          have t176 := act_tmp e176
          clear e176'
          rw [qp] at t176
          clear hat hoff hp
          exact wp_value' (.bool true) W (by unfold execOp; go_simp) ⟨_, rfl, rfl, hGW, hrefl W⟩
        | false =>
          have e176' := (hat 132 176 (of_decide_eq_true (by kernel_rfl)) (by kernel_rfl)).trans (hp 132 (by omega))
          have e176 : F.eval (.tmp 176) = .bool (((((((((term != 0) || (index != 0)) || (prev != 0)) || (commit != 0)) || (decide ((0 : Int) < (en : Nat)))) || (data != ⟨#[]⟩)) || (decide ((0 : Int) < (hn : Nat)))) || (site != 0)) || (decide ((0 : Int) < (pn : Nat)))) := e176'
          have t176 := act_tmp e176
          clear e176'
          rw [qp] at t176
          have e185' := (hat 141 185 (of_decide_eq_true (by kernel_rfl)) (by kernel_rfl)).trans (hp 141 (by omega))
          rw [qp] at e185'
          have e185 : F.eval (.tmp 185) = .bool false := e185'
          have t185 := act_tmp e185
          clear e185'
          clear hat hoff hp
          exact wp_value' (.bool false) W (by unfold execOp; go_simp) ⟨_, rfl, rfl, hGW, hrefl W⟩
      | i + 143 => exact (none_past (n := 143) (by kernel_rfl) ho).elim
  case hend =>
    intro U W hGW hV
    have hx : U 142 = .bool (((((((((term != 0) || (index != 0)) || (prev != 0)) || (commit != 0)) || (decide ((0 : Int) < (en : Nat)))) || (data != ⟨#[]⟩)) || (decide ((0 : Int) < (hn : Nat)))) || (site != 0)) || (decide ((0 : Int) < (pn : Nat)))) := hV 142 (of_decide_eq_true (by kernel_rfl))
    have hw : W = w := hGW.2.out
    subst hw
    refine HQ.out _ ⟨?_, ?_, ?_, ?_, ?_, trivial⟩
    · rw [putU_defers]; exact hfr.1
    · rw [putU_size]; exact hfr.2.1
    · rw [putU_old 1 (of_decide_eq_true (by kernel_rfl))]; exact hfr.2.2.1
    · rw [putU_old 4 (of_decide_eq_true (by kernel_rfl))]; exact hfr.2.2.2.1
    · rw [putU_get (by rw [hfr.2.1]; kernel_rfl) 142 186 (of_decide_eq_true (by kernel_rfl)) (by kernel_rfl), hx, c32_eq]
end Go.Proofs.Ytaipgdhdfpemcaa

namespace Go.Proofs.Ytaipgdhdfpemcaa
open Go.RowKit

set_option maxHeartbeats 1000000 in
theorem rholes_any (up : Int) (B : Nat) (A : Option Addr) (n c : Nat) (l : List Int) (w : World) (h : Reads w B 1 A n (intV .i64 l)) (hn : n ≤ 140737488351232) :
    Calls Try.prog 101 #[.slice A n c, .int .i64 up] w fun e w' => e = .returned (.bool (riseB up 0 l)) ∧ w = w' := by
  have hlen := ints_len h
  have HR := Lib.hid h
  have HL := Lib.hid hlen
  clear h hlen
  go_enter Try.func101, Try.ntmps101
  go_wp2_with fail
  go_loop [5, 6] (fun s i => ∃ (k : Nat) (m : Int), k ≤ n ∧ s = .int .i64 m ∧ i = .int .i64 k ∧ riseB up 0 l = riseB up m (l.drop k)) (fun _ i => n - (intOf i).toNat)
  case atStart => exact ⟨0, 0, by omega, rfl, rfl, rfl⟩
  case round =>
    obtain ⟨k, m, hk, rfl, rfl, hrl⟩ := hrel
    have HRL := Lib.hid hrl
    clear hrl
    rcases Nat.lt_or_ge k n with hk1 | hk1
    · obtain ⟨ad, hA, hcell⟩ := int_at HR.out hk1
      have hkl : k < l.length := by rw [HL.out]; exact hk1
      have hdr : l.drop k = l.getD k 0 :: l.drop (k + 1) := by
        rw [List.drop_eq_getElem_cons hkl]
        simp [List.getD, hkl]
      obtain ⟨x, hx⟩ : ∃ x, x = l.getD k 0 := ⟨_, rfl⟩
      rw [← hx] at hcell hdr
      have HDR := Lib.hid hdr
      clear hx hdr
      subst hA
      by_cases h1 : x ≤ m
      · have d1 : decide (x ≤ m) = true := decide_eq_true h1
        have H1 := Lib.hid h1
        clear h1
        go_wp2
        go_ret
        exact ⟨ret_bool' (by have h1 := H1.out; rw [HRL.out, HDR.out]; simp [riseB, show ¬ m < x by omega]), rfl⟩
      · have d1 : decide (x ≤ m) = false := decide_eq_false h1
        have H1 := Lib.hid h1
        clear h1
        by_cases h2 : up < x
        · have d2 : decide (up < x) = true := decide_eq_true h2
          have H2 := Lib.hid h2
          clear h2
          go_wp2
          go_ret
          exact ⟨ret_bool' (by have h2 := H2.out; rw [HRL.out, HDR.out]; simp [riseB, show ¬ x ≤ up by omega]), rfl⟩
        · have d2 : decide (up < x) = false := decide_eq_false h2
          have H2 := Lib.hid h2
          clear h2
          go_wp2
          go_round
          case rel => exact ⟨k + 1, x, by omega, rfl, by go_num, by have h1 := H1.out; have h2 := H2.out; rw [HRL.out, HDR.out]; simp [riseB, show m < x by omega, show x ≤ up by omega]⟩
          case measure => simp [intOf]; omega
    · obtain rfl : n = k := by omega
      have hdr : l.drop n = [] := List.drop_of_length_le (by rw [HL.out]; exact Nat.le_refl _)
      have HDR := Lib.hid hdr
      clear hdr
      go_wp2
      go_ret
      exact ⟨ret_bool' (by rw [HRL.out, HDR.out]; rfl), rfl⟩

set_option maxHeartbeats 1000000 in
theorem rplace_any (n e : Int) (w : World) :
    Calls Try.prog 100 #[.agg #[.int .i64 n, .int .i64 e]] w fun x w' => x = .returned (.bool (placeB n e)) ∧ Below w.heap.size w w' := by
  have HB := Lib.hid ((Below.refl w.heap.size w).alloc (Nat.le_refl _) (.cells #[.int .i64 n, .int .i64 e] 26))
  go_enter Try.func100, Try.ntmps100
  by_cases q0 : 0 ≤ n
  · have t0 : decide (0 ≤ n) = true := decide_eq_true q0
    have Q0 := Lib.hid q0
    clear q0
    by_cases q1 : n ≤ 80
    · have t1 : decide (n ≤ 80) = true := decide_eq_true q1
      have Q1 := Lib.hid q1
      clear q1
      by_cases q2 : 0 ≤ e
      · have t2 : decide (0 ≤ e) = true := decide_eq_true q2
        have Q2 := Lib.hid q2
        clear q2
        by_cases q3 : e ≤ 16
        · have t3 : decide (e ≤ 16) = true := decide_eq_true q3
          have Q3 := Lib.hid q3
          clear q3
          obtain ⟨bn, hbn⟩ : ∃ b, b = (n == 0) := ⟨_, rfl⟩
          obtain ⟨be, hbe⟩ : ∃ b, b = (e == 0) := ⟨_, rfl⟩
          have tn := hbn.symm
          have te := hbe.symm
          have N0 := Lib.hid tn
          have E0 := Lib.hid te
          clear hbn hbe
          cases bn <;> cases be
          · go_wp2_with fail
            go_ret
            exact ⟨ret_bool' (by simp [placeB, Q0.out, Q1.out, Q2.out, Q3.out, N0.out, E0.out]), HB.out⟩
          · go_wp2_with fail
            go_ret
            exact ⟨ret_bool' (by simp [placeB, Q0.out, Q1.out, Q2.out, Q3.out, N0.out, E0.out]), HB.out⟩
          · go_wp2_with fail
            go_ret
            exact ⟨ret_bool' (by simp [placeB, Q0.out, Q1.out, Q2.out, Q3.out, N0.out, E0.out]), HB.out⟩
          · go_wp2_with fail
            go_ret
            exact ⟨ret_bool' (by simp [placeB, Q0.out, Q1.out, Q2.out, Q3.out, N0.out, E0.out]), HB.out⟩
        · have t3 : decide (e ≤ 16) = false := decide_eq_false q3
          have Q3 := Lib.hid t3
          clear q3
          go_wp2_with fail
          go_ret
          exact ⟨ret_bool' (by simp only [placeB, Q3.out, Bool.and_false, Bool.false_and]), HB.out⟩
      · have t2 : decide (0 ≤ e) = false := decide_eq_false q2
        have Q2 := Lib.hid t2
        clear q2
        go_wp2_with fail
        go_ret
        exact ⟨ret_bool' (by simp only [placeB, Q2.out, Bool.and_false, Bool.false_and]), HB.out⟩
    · have t1 : decide (n ≤ 80) = false := decide_eq_false q1
      have Q1 := Lib.hid t1
      clear q1
      go_wp2_with fail
      go_ret
      exact ⟨ret_bool' (by simp only [placeB, Q1.out, Bool.and_false, Bool.false_and]), HB.out⟩
  · have t0 : decide (0 ≤ n) = false := decide_eq_false q0
    have Q0 := Lib.hid t0
    clear q0
    go_wp2_with fail
    go_ret
    exact ⟨ret_bool' (by simp only [placeB, Q0.out, Bool.false_and]), HB.out⟩

/-- what a mail of the kind 10 has to be -/
def c34 (epoch atN atE whN whE : Int) : Bool := decide (0 ≤ epoch) && decide (epoch ≤ 16) && placeB atN atE && placeB whN whE
theorem c34_eq {epoch atN atE whN whE : Int} : ((((decide (epoch < 0)) || (decide (16 < epoch))) || (!(placeB atN atE))) || (!(placeB whN whE))) = !(c34 epoch atN atE whN whE) := by
  have h1 : decide (epoch < 0) = !decide (0 ≤ epoch) := by by_cases h : epoch < 0 <;> simp [h]; omega
  have h2 : decide (16 < epoch) = !decide (epoch ≤ 16) := by by_cases h : 16 < epoch <;> simp [h]; omega
  rw [h1, h2]
  simp [c34, Bool.not_and]
set_option maxRecDepth 100000 in
set_option maxHeartbeats 4000000 in
theorem right34 (w : World) (Q : Exit → Act → World → Prop) (a : Act) (mb g : Nat) {good : Bool} {eA : Option Addr} {ec : Nat} {data : ByteArray} {hA : Option Addr} {hc : Nat} {epoch atN atE whN whE : Int} {oA : Option Addr} {on oc : Nat} {pA : Option Addr} {pc : Nat}
    (hfr : Fr 391 a [(1, .pointer (some ⟨mb, 0, none⟩)), (4, .map (some g))]) (h : NamedIs w g [72, 119, 97, 103, 69]) (hm : Blk w mb 30 (mailC 10 0 0 0 0 good eA 0 ec data hA 0 hc epoch 0 atN atE whN whE oA on oc pA 0 pc))
    (hQ : ∀ a' w', Fr 391 a' [(1, .pointer (some ⟨mb, 0, none⟩)), (260, .bool (!(c34 epoch atN atE whN whE)))] → Blk w' mb 30 (mailC 10 0 0 0 0 good eA 0 ec data hA 0 hc epoch 0 atN atE whN whE oA on oc pA 0 pc) → Below w.heap.size w w' → Q .normal a' w') :
    (part [1, 1, 1, 1, 1, 1, 0, 0] (codeOf rightF)).wp Try.prog Q a w := by
  have ha1 : a.eval (.tmp 1) = .pointer (some ⟨mb, 0, none⟩) := eval_of hfr.2.2.1
  have ha4 : a.eval (.tmp 4) = .map (some g) := eval_of hfr.2.2.2.1
  have HQ := Lib.hid hQ
  have HM := Lib.hid hm
  have HNM := Lib.hid h
  clear hQ h hm
  refine wp_region_named (c := (part [1, 1, 1, 1, 1, 1, 0, 0] (codeOf rightF))) (id := 34) (by kernel_rfl) (fun i v W => match i with | 0 => v = .map (some g) | 1 => v = .bool false | 2 => v = .bool false | 3 => v = undef | 4 => v = undef | 5 => v = undef | 6 => v = undef | 7 => v = undef | 8 => v = undef | 9 => v = undef | 10 => v = undef | 11 => v = .bool false | 12 => v = .bool false | 13 => v = .pointer (some ⟨mb, 2, none⟩) | 14 => v = .int .i64 0 | 15 => v = .bool false | 16 => v = .bool false | 17 => v = .bool false | 18 => v = .pointer (some ⟨mb, 2, none⟩) | 19 => v = .int .i64 0 | 20 => v = .bool false | 21 => v = .bool false | 22 => v = .bool false | 23 => v = .pointer (some ⟨mb, 3, none⟩) | 24 => v = .int .i64 0 | 25 => v = .bool false | 26 => v = .bool false | 27 => v = .bool false | 28 => v = .pointer (some ⟨mb, 3, none⟩) | 29 => v = .int .i64 0 | 30 => v = .bool false | 31 => v = .bool false | 32 => v = .bool false | 33 => v = .pointer (some ⟨mb, 4, none⟩) | 34 => v = .int .i64 0 | 35 => v = .bool false | 36 => v = .bool false | 37 => v = .bool false | 38 => v = .pointer (some ⟨mb, 4, none⟩) | 39 => v = .int .i64 0 | 40 => v = .bool false | 41 => v = .bool false | 42 => v = .bool false | 43 => v = .pointer (some ⟨mb, 10, none⟩) | 44 => v = .int .i64 0 | 45 => v = .bool false | 46 => v = .bool false | 47 => v = .bool false | 48 => v = .pointer (some ⟨mb, 10, none⟩) | 49 => v = .int .i64 0 | 50 => v = .bool false | 51 => v = .bool false | 52 => v = .bool false | 53 => v = .pointer (some ⟨mb, 9, none⟩) | 54 => v = .int .i64 epoch | 55 => v = .bool (decide (epoch < 0)) | 56 => v = .bool (decide (epoch < 0)) | 57 => v = .bool (decide (epoch < 0)) | 58 => v = (bif (decide (epoch < 0)) then undef else .pointer (some ⟨mb, 9, none⟩)) | 59 => v = (bif (decide (epoch < 0)) then undef else .int .i64 epoch) | 60 => v = (bif (decide (epoch < 0)) then undef else .bool (decide (16 < epoch))) | 61 => v = .bool ((decide (epoch < 0)) || (decide (16 < epoch))) | 62 => v = .bool ((decide (epoch < 0)) || (decide (16 < epoch))) | 63 => v = (bif ((decide (epoch < 0)) || (decide (16 < epoch))) then undef else .pointer (some ⟨mb, 11, none⟩)) | 64 => v = (bif ((decide (epoch < 0)) || (decide (16 < epoch))) then undef else .agg #[.int .i64 atN, .int .i64 atE]) | 65 => v = (bif ((decide (epoch < 0)) || (decide (16 < epoch))) then undef else .bool (placeB atN atE)) | 66 => v = (bif ((decide (epoch < 0)) || (decide (16 < epoch))) then undef else .bool (!(placeB atN atE))) | 67 => v = .bool (((decide (epoch < 0)) || (decide (16 < epoch))) || (!(placeB atN atE))) | 68 => v = .bool (((decide (epoch < 0)) || (decide (16 < epoch))) || (!(placeB atN atE))) | 69 => v = (bif (((decide (epoch < 0)) || (decide (16 < epoch))) || (!(placeB atN atE))) then undef else .pointer (some ⟨mb, 13, none⟩)) | 70 => v = (bif (((decide (epoch < 0)) || (decide (16 < epoch))) || (!(placeB atN atE))) then undef else .agg #[.int .i64 whN, .int .i64 whE]) | 71 => v = (bif (((decide (epoch < 0)) || (decide (16 < epoch))) || (!(placeB atN atE))) then undef else .bool (placeB whN whE)) | 72 => v = (bif (((decide (epoch < 0)) || (decide (16 < epoch))) || (!(placeB atN atE))) then undef else .bool (!(placeB whN whE))) | 73 => v = .bool ((((decide (epoch < 0)) || (decide (16 < epoch))) || (!(placeB atN atE))) || (!(placeB whN whE))) | _ => True) (fun W => Blk W mb 30 (mailC 10 0 0 0 0 good eA 0 ec data hA 0 hc epoch 0 atN atE whN whE oA on oc pA 0 pc) ∧ Below w.heap.size w W) (fun W W' => True) ?hsz ?hG ?hmono ?hstep ?hend
  case hsz => rw [hfr.2.1]; kernel_rfl
  case hG => exact ⟨HM.out, Below.refl _ _⟩
  case hmono =>
    intro i v W W' hx hv
    exact hv
  case hstep =>
    intro i o F U W ho hGW hat hoff hp
    have hrefl := fun _ : World => trivial
    match i with
      | 0 =>
        conv at ho => lhs; whnf; arg 1; whnf
        injection ho with ho
        subst ho
        refine on_ (wanted_none rfl) ?_
        have e4 : F.eval (.tmp 4) = .map (some g) := (hoff 4 (of_decide_eq_true (by kernel_rfl))).trans ha4
        have t4 := act_tmp e4
        exact wp_move' (.tmp 4) rfl ⟨_, rfl, e4, hGW, hrefl W⟩
      | 1 =>
        conv at ho => lhs; whnf; arg 1; whnf
        injection ho with ho
        subst ho
        refine on_ (wanted_none rfl) ?_
        have e187' := (hat 0 187 (of_decide_eq_true (by kernel_rfl)) (by kernel_rfl)).trans (hp 0 (by omega))
        have e187 : F.eval (.tmp 187) = .map (some g) := e187'
        have t187 := act_tmp e187
        clear e187'
        clear hat hoff hp
        have l : (Instr.lookup 147 (.map (some g)) (.int .u8 116) false).run Try.prog W = .ok (.bool false) W := (HNM.out.below hGW.2 HNM.out.lt).look 116 false (named_at (116, false) (by simp)).2 (named_at (116, false) (by simp)).1
        exact wp_value' (.bool false) W (by unfold execOp; go_simp) ⟨_, rfl, rfl, hGW, hrefl W⟩
      | 2 =>
        conv at ho => lhs; whnf; arg 1; whnf
        injection ho with ho
        subst ho
        refine on_ (wanted_none rfl) ?_
        have e188' := (hat 1 188 (of_decide_eq_true (by kernel_rfl)) (by kernel_rfl)).trans (hp 1 (by omega))
        have e188 : F.eval (.tmp 188) = .bool false := e188'
        have t188 := act_tmp e188
        clear e188'
        exact wp_move' (.tmp 188) rfl ⟨_, rfl, e188, hGW, hrefl W⟩
      | 3 =>
        conv at ho => lhs; whnf; arg 1; whnf
        injection ho with ho
        subst ho
        have eg := (hat 2 189 (of_decide_eq_true (by kernel_rfl)) (by kernel_rfl)).trans (hp 2 (by omega))
        exact off_ (W := W) ((wanted_by (c := false) rfl (by kernel_rfl) eg).trans rfl) rfl
      | 4 =>
        conv at ho => lhs; whnf; arg 1; whnf
        injection ho with ho
        subst ho
        have eg := (hat 2 189 (of_decide_eq_true (by kernel_rfl)) (by kernel_rfl)).trans (hp 2 (by omega))
        exact off_ (W := W) ((wanted_by (c := false) rfl (by kernel_rfl) eg).trans rfl) rfl
      | 5 =>
        conv at ho => lhs; whnf; arg 1; whnf
        injection ho with ho
        subst ho
        have eg := (hat 2 189 (of_decide_eq_true (by kernel_rfl)) (by kernel_rfl)).trans (hp 2 (by omega))
        exact off_ (W := W) ((wanted_by (c := false) rfl (by kernel_rfl) eg).trans rfl) rfl
      | 6 =>
        conv at ho => lhs; whnf; arg 1; whnf
        injection ho with ho
        subst ho
        have eg := (hat 2 189 (of_decide_eq_true (by kernel_rfl)) (by kernel_rfl)).trans (hp 2 (by omega))
        exact off_ (W := W) ((wanted_by (c := false) rfl (by kernel_rfl) eg).trans rfl) rfl
      | 7 =>
        conv at ho => lhs; whnf; arg 1; whnf
        injection ho with ho
        subst ho
        have eg := (hat 6 193 (of_decide_eq_true (by kernel_rfl)) (by kernel_rfl)).trans (hp 6 (by omega))
        exact off_ (W := W) (wanted_undef rfl (by kernel_rfl) eg) rfl
      | 8 =>
        conv at ho => lhs; whnf; arg 1; whnf
        injection ho with ho
        subst ho
        have eg := (hat 6 193 (of_decide_eq_true (by kernel_rfl)) (by kernel_rfl)).trans (hp 6 (by omega))
        exact off_ (W := W) (wanted_undef rfl (by kernel_rfl) eg) rfl
      | 9 =>
        conv at ho => lhs; whnf; arg 1; whnf
        injection ho with ho
        subst ho
        have eg := (hat 6 193 (of_decide_eq_true (by kernel_rfl)) (by kernel_rfl)).trans (hp 6 (by omega))
        exact off_ (W := W) (wanted_undef rfl (by kernel_rfl) eg) rfl
      | 10 =>
        conv at ho => lhs; whnf; arg 1; whnf
        injection ho with ho
        subst ho
        have eg := (hat 2 189 (of_decide_eq_true (by kernel_rfl)) (by kernel_rfl)).trans (hp 2 (by omega))
        exact off_ (W := W) ((wanted_by (c := false) rfl (by kernel_rfl) eg).trans rfl) rfl
      | 11 =>
        conv at ho => lhs; whnf; arg 1; whnf
        injection ho with ho
        subst ho
        refine on_ (wanted_none rfl) ?_
        have e189' := (hat 2 189 (of_decide_eq_true (by kernel_rfl)) (by kernel_rfl)).trans (hp 2 (by omega))
        have e189 : F.eval (.tmp 189) = .bool false := e189'
        have t189 := act_tmp e189
        clear e189'
        clear hat hoff hp
        exact wp_value' (.bool false) W (by unfold execOp; go_simp) ⟨_, rfl, rfl, hGW, hrefl W⟩
      | 12 =>
        conv at ho => lhs; whnf; arg 1; whnf
        injection ho with ho
        subst ho
        refine on_ (wanted_none rfl) ?_
        have e198' := (hat 11 198 (of_decide_eq_true (by kernel_rfl)) (by kernel_rfl)).trans (hp 11 (by omega))
        have e198 : F.eval (.tmp 198) = .bool false := e198'
        have t198 := act_tmp e198
        clear e198'
        exact wp_move' (.tmp 198) rfl ⟨_, rfl, e198, hGW, hrefl W⟩
      | 13 =>
        conv at ho => lhs; whnf; arg 1; whnf
        injection ho with ho
        subst ho
        have eg := (hat 12 199 (of_decide_eq_true (by kernel_rfl)) (by kernel_rfl)).trans (hp 12 (by omega))
        refine on_ ((wanted_by (c := false) rfl (by kernel_rfl) eg).trans rfl) ?_
        have e1 : F.eval (.tmp 1) = .pointer (some ⟨mb, 0, none⟩) := (hoff 1 (of_decide_eq_true (by kernel_rfl))).trans ha1
        have t1 := act_tmp e1
        clear hat hoff hp
        exact wp_value' (.pointer (some ⟨mb, 2, none⟩)) W (by unfold execOp; go_simp) ⟨_, rfl, rfl, hGW, hrefl W⟩
      | 14 =>
        conv at ho => lhs; whnf; arg 1; whnf
        injection ho with ho
        subst ho
        have eg := (hat 12 199 (of_decide_eq_true (by kernel_rfl)) (by kernel_rfl)).trans (hp 12 (by omega))
        refine on_ ((wanted_by (c := false) rfl (by kernel_rfl) eg).trans rfl) ?_
        have e200' := (hat 13 200 (of_decide_eq_true (by kernel_rfl)) (by kernel_rfl)).trans (hp 13 (by omega))
        have e200 : F.eval (.tmp 200) = .pointer (some ⟨mb, 2, none⟩) := e200'
        have t200 := act_tmp e200
        clear e200'
        clear hat hoff hp
        have d := hGW.1.cell 2
        simp at d
        exact wp_value' (.int .i64 0) W (by unfold execOp; go_simp) ⟨_, rfl, rfl, hGW, hrefl W⟩
      | 15 =>
        conv at ho => lhs; whnf; arg 1; whnf
        injection ho with ho
        subst ho
        have eg := (hat 12 199 (of_decide_eq_true (by kernel_rfl)) (by kernel_rfl)).trans (hp 12 (by omega))
        refine on_ ((wanted_by (c := false) rfl (by kernel_rfl) eg).trans rfl) ?_
        have e201' := (hat 14 201 (of_decide_eq_true (by kernel_rfl)) (by kernel_rfl)).trans (hp 14 (by omega))
        have e201 : F.eval (.tmp 201) = .int .i64 0 := e201'
        have t201 := act_tmp e201
        clear e201'
        clear hat hoff hp
        exact wp_value' (.bool false) W (by unfold execOp; go_simp) ⟨_, rfl, rfl, hGW, hrefl W⟩
      | 16 =>
        conv at ho => lhs; whnf; arg 1; whnf
        injection ho with ho
        subst ho
        refine on_ (wanted_none rfl) ?_
        have e199' := (hat 12 199 (of_decide_eq_true (by kernel_rfl)) (by kernel_rfl)).trans (hp 12 (by omega))
        have e199 : F.eval (.tmp 199) = .bool false := e199'
        have t199 := act_tmp e199
        clear e199'
        have e202' := (hat 15 202 (of_decide_eq_true (by kernel_rfl)) (by kernel_rfl)).trans (hp 15 (by omega))
        have e202 : F.eval (.tmp 202) = .bool false := e202'
        have t202 := act_tmp e202
        clear e202'
        clear hat hoff hp
        exact wp_value' (.bool false) W (by unfold execOp; go_simp) ⟨_, rfl, rfl, hGW, hrefl W⟩
      | 17 =>
        conv at ho => lhs; whnf; arg 1; whnf
        injection ho with ho
        subst ho
        refine on_ (wanted_none rfl) ?_
        have e203' := (hat 16 203 (of_decide_eq_true (by kernel_rfl)) (by kernel_rfl)).trans (hp 16 (by omega))
        have e203 : F.eval (.tmp 203) = .bool false := e203'
        have t203 := act_tmp e203
        clear e203'
        exact wp_move' (.tmp 203) rfl ⟨_, rfl, e203, hGW, hrefl W⟩
      | 18 =>
        conv at ho => lhs; whnf; arg 1; whnf
        injection ho with ho
        subst ho
        have eg := (hat 17 204 (of_decide_eq_true (by kernel_rfl)) (by kernel_rfl)).trans (hp 17 (by omega))
        refine on_ ((wanted_by (c := false) rfl (by kernel_rfl) eg).trans rfl) ?_
        have e1 : F.eval (.tmp 1) = .pointer (some ⟨mb, 0, none⟩) := (hoff 1 (of_decide_eq_true (by kernel_rfl))).trans ha1
        have t1 := act_tmp e1
        clear hat hoff hp
        exact wp_value' (.pointer (some ⟨mb, 2, none⟩)) W (by unfold execOp; go_simp) ⟨_, rfl, rfl, hGW, hrefl W⟩
      | 19 =>
        conv at ho => lhs; whnf; arg 1; whnf
        injection ho with ho
        subst ho
        have eg := (hat 17 204 (of_decide_eq_true (by kernel_rfl)) (by kernel_rfl)).trans (hp 17 (by omega))
        refine on_ ((wanted_by (c := false) rfl (by kernel_rfl) eg).trans rfl) ?_
        have e205' := (hat 18 205 (of_decide_eq_true (by kernel_rfl)) (by kernel_rfl)).trans (hp 18 (by omega))
        have e205 : F.eval (.tmp 205) = .pointer (some ⟨mb, 2, none⟩) := e205'
        have t205 := act_tmp e205
        clear e205'
        clear hat hoff hp
        have d := hGW.1.cell 2
        simp at d
        exact wp_value' (.int .i64 0) W (by unfold execOp; go_simp) ⟨_, rfl, rfl, hGW, hrefl W⟩
      | 20 =>
        conv at ho => lhs; whnf; arg 1; whnf
        injection ho with ho
        subst ho
        have eg := (hat 17 204 (of_decide_eq_true (by kernel_rfl)) (by kernel_rfl)).trans (hp 17 (by omega))
        refine on_ ((wanted_by (c := false) rfl (by kernel_rfl) eg).trans rfl) ?_
        have e206' := (hat 19 206 (of_decide_eq_true (by kernel_rfl)) (by kernel_rfl)).trans (hp 19 (by omega))
        have e206 : F.eval (.tmp 206) = .int .i64 0 := e206'
        have t206 := act_tmp e206
        clear e206'
        clear hat hoff hp
        exact wp_value' (.bool false) W (by unfold execOp; go_simp) ⟨_, rfl, rfl, hGW, hrefl W⟩
      | 21 =>
        conv at ho => lhs; whnf; arg 1; whnf
        injection ho with ho
        subst ho
        refine on_ (wanted_none rfl) ?_
        have e204' := (hat 17 204 (of_decide_eq_true (by kernel_rfl)) (by kernel_rfl)).trans (hp 17 (by omega))
        have e204 : F.eval (.tmp 204) = .bool false := e204'
        have t204 := act_tmp e204
        clear e204'
        have e207' := (hat 20 207 (of_decide_eq_true (by kernel_rfl)) (by kernel_rfl)).trans (hp 20 (by omega))
        have e207 : F.eval (.tmp 207) = .bool false := e207'
        have t207 := act_tmp e207
        clear e207'
        clear hat hoff hp
        exact wp_value' (.bool false) W (by unfold execOp; go_simp) ⟨_, rfl, rfl, hGW, hrefl W⟩
      | 22 =>
        conv at ho => lhs; whnf; arg 1; whnf
        injection ho with ho
        subst ho
        refine on_ (wanted_none rfl) ?_
        have e208' := (hat 21 208 (of_decide_eq_true (by kernel_rfl)) (by kernel_rfl)).trans (hp 21 (by omega))
        have e208 : F.eval (.tmp 208) = .bool false := e208'
        have t208 := act_tmp e208
        clear e208'
        exact wp_move' (.tmp 208) rfl ⟨_, rfl, e208, hGW, hrefl W⟩
      | 23 =>
        conv at ho => lhs; whnf; arg 1; whnf
        injection ho with ho
        subst ho
        have eg := (hat 22 209 (of_decide_eq_true (by kernel_rfl)) (by kernel_rfl)).trans (hp 22 (by omega))
        refine on_ ((wanted_by (c := false) rfl (by kernel_rfl) eg).trans rfl) ?_
        have e1 : F.eval (.tmp 1) = .pointer (some ⟨mb, 0, none⟩) := (hoff 1 (of_decide_eq_true (by kernel_rfl))).trans ha1
        have t1 := act_tmp e1
        clear hat hoff hp
        exact wp_value' (.pointer (some ⟨mb, 3, none⟩)) W (by unfold execOp; go_simp) ⟨_, rfl, rfl, hGW, hrefl W⟩
      | 24 =>
        conv at ho => lhs; whnf; arg 1; whnf
        injection ho with ho
        subst ho
        have eg := (hat 22 209 (of_decide_eq_true (by kernel_rfl)) (by kernel_rfl)).trans (hp 22 (by omega))
        refine on_ ((wanted_by (c := false) rfl (by kernel_rfl) eg).trans rfl) ?_
        have e210' := (hat 23 210 (of_decide_eq_true (by kernel_rfl)) (by kernel_rfl)).trans (hp 23 (by omega))
        have e210 : F.eval (.tmp 210) = .pointer (some ⟨mb, 3, none⟩) := e210'
        have t210 := act_tmp e210
        clear e210'
        clear hat hoff hp
        have d := hGW.1.cell 3
        simp at d
        exact wp_value' (.int .i64 0) W (by unfold execOp; go_simp) ⟨_, rfl, rfl, hGW, hrefl W⟩
      | 25 =>
        conv at ho => lhs; whnf; arg 1; whnf
        injection ho with ho
        subst ho
        have eg := (hat 22 209 (of_decide_eq_true (by kernel_rfl)) (by kernel_rfl)).trans (hp 22 (by omega))
        refine on_ ((wanted_by (c := false) rfl (by kernel_rfl) eg).trans rfl) ?_
        have e211' := (hat 24 211 (of_decide_eq_true (by kernel_rfl)) (by kernel_rfl)).trans (hp 24 (by omega))
        have e211 : F.eval (.tmp 211) = .int .i64 0 := e211'
        have t211 := act_tmp e211
        clear e211'
        clear hat hoff hp
        exact wp_value' (.bool false) W (by unfold execOp; go_simp) ⟨_, rfl, rfl, hGW, hrefl W⟩
      | 26 =>
        conv at ho => lhs; whnf; arg 1; whnf
        injection ho with ho
        subst ho
        refine on_ (wanted_none rfl) ?_
        have e209' := (hat 22 209 (of_decide_eq_true (by kernel_rfl)) (by kernel_rfl)).trans (hp 22 (by omega))
        have e209 : F.eval (.tmp 209) = .bool false := e209'
        have t209 := act_tmp e209
        clear e209'
        have e212' := (hat 25 212 (of_decide_eq_true (by kernel_rfl)) (by kernel_rfl)).trans (hp 25 (by omega))
        have e212 : F.eval (.tmp 212) = .bool false := e212'
        have t212 := act_tmp e212
        clear e212'
        clear hat hoff hp
        exact wp_value' (.bool false) W (by unfold execOp; go_simp) ⟨_, rfl, rfl, hGW, hrefl W⟩
      | 27 =>
        conv at ho => lhs; whnf; arg 1; whnf
        injection ho with ho
        subst ho
        refine on_ (wanted_none rfl) ?_
        have e213' := (hat 26 213 (of_decide_eq_true (by kernel_rfl)) (by kernel_rfl)).trans (hp 26 (by omega))
        have e213 : F.eval (.tmp 213) = .bool false := e213'
        have t213 := act_tmp e213
        clear e213'
        exact wp_move' (.tmp 213) rfl ⟨_, rfl, e213, hGW, hrefl W⟩
      | 28 =>
        conv at ho => lhs; whnf; arg 1; whnf
        injection ho with ho
        subst ho
        have eg := (hat 27 214 (of_decide_eq_true (by kernel_rfl)) (by kernel_rfl)).trans (hp 27 (by omega))
        refine on_ ((wanted_by (c := false) rfl (by kernel_rfl) eg).trans rfl) ?_
        have e1 : F.eval (.tmp 1) = .pointer (some ⟨mb, 0, none⟩) := (hoff 1 (of_decide_eq_true (by kernel_rfl))).trans ha1
        have t1 := act_tmp e1
        clear hat hoff hp
        exact wp_value' (.pointer (some ⟨mb, 3, none⟩)) W (by unfold execOp; go_simp) ⟨_, rfl, rfl, hGW, hrefl W⟩
      | 29 =>
        conv at ho => lhs; whnf; arg 1; whnf
        injection ho with ho
        subst ho
        have eg := (hat 27 214 (of_decide_eq_true (by kernel_rfl)) (by kernel_rfl)).trans (hp 27 (by omega))
        refine on_ ((wanted_by (c := false) rfl (by kernel_rfl) eg).trans rfl) ?_
        have e215' := (hat 28 215 (of_decide_eq_true (by kernel_rfl)) (by kernel_rfl)).trans (hp 28 (by omega))
        have e215 : F.eval (.tmp 215) = .pointer (some ⟨mb, 3, none⟩) := e215'
        have t215 := act_tmp e215
        clear e215'
        clear hat hoff hp
        have d := hGW.1.cell 3
        simp at d
        exact wp_value' (.int .i64 0) W (by unfold execOp; go_simp) ⟨_, rfl, rfl, hGW, hrefl W⟩
      | 30 =>
        conv at ho => lhs; whnf; arg 1; whnf
        injection ho with ho
        subst ho
        have eg := (hat 27 214 (of_decide_eq_true (by kernel_rfl)) (by kernel_rfl)).trans (hp 27 (by omega))
        refine on_ ((wanted_by (c := false) rfl (by kernel_rfl) eg).trans rfl) ?_
        have e216' := (hat 29 216 (of_decide_eq_true (by kernel_rfl)) (by kernel_rfl)).trans (hp 29 (by omega))
        have e216 : F.eval (.tmp 216) = .int .i64 0 := e216'
        have t216 := act_tmp e216
        clear e216'
        clear hat hoff hp
        exact wp_value' (.bool false) W (by unfold execOp; go_simp) ⟨_, rfl, rfl, hGW, hrefl W⟩
      | 31 =>
        conv at ho => lhs; whnf; arg 1; whnf
        injection ho with ho
        subst ho
        refine on_ (wanted_none rfl) ?_
        have e214' := (hat 27 214 (of_decide_eq_true (by kernel_rfl)) (by kernel_rfl)).trans (hp 27 (by omega))
        have e214 : F.eval (.tmp 214) = .bool false := e214'
        have t214 := act_tmp e214
        clear e214'
        have e217' := (hat 30 217 (of_decide_eq_true (by kernel_rfl)) (by kernel_rfl)).trans (hp 30 (by omega))
        have e217 : F.eval (.tmp 217) = .bool false := e217'
        have t217 := act_tmp e217
        clear e217'
        clear hat hoff hp
        exact wp_value' (.bool false) W (by unfold execOp; go_simp) ⟨_, rfl, rfl, hGW, hrefl W⟩
      | 32 =>
        conv at ho => lhs; whnf; arg 1; whnf
        injection ho with ho
        subst ho
        refine on_ (wanted_none rfl) ?_
        have e218' := (hat 31 218 (of_decide_eq_true (by kernel_rfl)) (by kernel_rfl)).trans (hp 31 (by omega))
        have e218 : F.eval (.tmp 218) = .bool false := e218'
        have t218 := act_tmp e218
        clear e218'
        exact wp_move' (.tmp 218) rfl ⟨_, rfl, e218, hGW, hrefl W⟩
      | 33 =>
        conv at ho => lhs; whnf; arg 1; whnf
        injection ho with ho
        subst ho
        have eg := (hat 32 219 (of_decide_eq_true (by kernel_rfl)) (by kernel_rfl)).trans (hp 32 (by omega))
        refine on_ ((wanted_by (c := false) rfl (by kernel_rfl) eg).trans rfl) ?_
        have e1 : F.eval (.tmp 1) = .pointer (some ⟨mb, 0, none⟩) := (hoff 1 (of_decide_eq_true (by kernel_rfl))).trans ha1
        have t1 := act_tmp e1
        clear hat hoff hp
        exact wp_value' (.pointer (some ⟨mb, 4, none⟩)) W (by unfold execOp; go_simp) ⟨_, rfl, rfl, hGW, hrefl W⟩
      | 34 =>
        conv at ho => lhs; whnf; arg 1; whnf
        injection ho with ho
        subst ho
        have eg := (hat 32 219 (of_decide_eq_true (by kernel_rfl)) (by kernel_rfl)).trans (hp 32 (by omega))
        refine on_ ((wanted_by (c := false) rfl (by kernel_rfl) eg).trans rfl) ?_
        have e220' := (hat 33 220 (of_decide_eq_true (by kernel_rfl)) (by kernel_rfl)).trans (hp 33 (by omega))
        have e220 : F.eval (.tmp 220) = .pointer (some ⟨mb, 4, none⟩) := e220'
        have t220 := act_tmp e220
        clear e220'
        clear hat hoff hp
        have d := hGW.1.cell 4
        simp at d
        exact wp_value' (.int .i64 0) W (by unfold execOp; go_simp) ⟨_, rfl, rfl, hGW, hrefl W⟩
      | 35 =>
        conv at ho => lhs; whnf; arg 1; whnf
        injection ho with ho
        subst ho
        have eg := (hat 32 219 (of_decide_eq_true (by kernel_rfl)) (by kernel_rfl)).trans (hp 32 (by omega))
        refine on_ ((wanted_by (c := false) rfl (by kernel_rfl) eg).trans rfl) ?_
        have e221' := (hat 34 221 (of_decide_eq_true (by kernel_rfl)) (by kernel_rfl)).trans (hp 34 (by omega))
        have e221 : F.eval (.tmp 221) = .int .i64 0 := e221'
        have t221 := act_tmp e221
        clear e221'
        clear hat hoff hp
        exact wp_value' (.bool false) W (by unfold execOp; go_simp) ⟨_, rfl, rfl, hGW, hrefl W⟩
      | 36 =>
        conv at ho => lhs; whnf; arg 1; whnf
        injection ho with ho
        subst ho
        refine on_ (wanted_none rfl) ?_
        have e219' := (hat 32 219 (of_decide_eq_true (by kernel_rfl)) (by kernel_rfl)).trans (hp 32 (by omega))
        have e219 : F.eval (.tmp 219) = .bool false := e219'
        have t219 := act_tmp e219
        clear e219'
        have e222' := (hat 35 222 (of_decide_eq_true (by kernel_rfl)) (by kernel_rfl)).trans (hp 35 (by omega))
        have e222 : F.eval (.tmp 222) = .bool false := e222'
        have t222 := act_tmp e222
        clear e222'
        clear hat hoff hp
        exact wp_value' (.bool false) W (by unfold execOp; go_simp) ⟨_, rfl, rfl, hGW, hrefl W⟩
      | 37 =>
        conv at ho => lhs; whnf; arg 1; whnf
        injection ho with ho
        subst ho
        refine on_ (wanted_none rfl) ?_
        have e223' := (hat 36 223 (of_decide_eq_true (by kernel_rfl)) (by kernel_rfl)).trans (hp 36 (by omega))
        have e223 : F.eval (.tmp 223) = .bool false := e223'
        have t223 := act_tmp e223
        clear e223'
        exact wp_move' (.tmp 223) rfl ⟨_, rfl, e223, hGW, hrefl W⟩
      | 38 =>
        conv at ho => lhs; whnf; arg 1; whnf
        injection ho with ho
        subst ho
        have eg := (hat 37 224 (of_decide_eq_true (by kernel_rfl)) (by kernel_rfl)).trans (hp 37 (by omega))
        refine on_ ((wanted_by (c := false) rfl (by kernel_rfl) eg).trans rfl) ?_
        have e1 : F.eval (.tmp 1) = .pointer (some ⟨mb, 0, none⟩) := (hoff 1 (of_decide_eq_true (by kernel_rfl))).trans ha1
        have t1 := act_tmp e1
        clear hat hoff hp
        exact wp_value' (.pointer (some ⟨mb, 4, none⟩)) W (by unfold execOp; go_simp) ⟨_, rfl, rfl, hGW, hrefl W⟩
      | 39 =>
        conv at ho => lhs; whnf; arg 1; whnf
        injection ho with ho
        subst ho
        have eg := (hat 37 224 (of_decide_eq_true (by kernel_rfl)) (by kernel_rfl)).trans (hp 37 (by omega))
        refine on_ ((wanted_by (c := false) rfl (by kernel_rfl) eg).trans rfl) ?_
        have e225' := (hat 38 225 (of_decide_eq_true (by kernel_rfl)) (by kernel_rfl)).trans (hp 38 (by omega))
        have e225 : F.eval (.tmp 225) = .pointer (some ⟨mb, 4, none⟩) := e225'
        have t225 := act_tmp e225
        clear e225'
        clear hat hoff hp
        have d := hGW.1.cell 4
        simp at d
        exact wp_value' (.int .i64 0) W (by unfold execOp; go_simp) ⟨_, rfl, rfl, hGW, hrefl W⟩
      | 40 =>
        conv at ho => lhs; whnf; arg 1; whnf
        injection ho with ho
        subst ho
        have eg := (hat 37 224 (of_decide_eq_true (by kernel_rfl)) (by kernel_rfl)).trans (hp 37 (by omega))
        refine on_ ((wanted_by (c := false) rfl (by kernel_rfl) eg).trans rfl) ?_
        have e226' := (hat 39 226 (of_decide_eq_true (by kernel_rfl)) (by kernel_rfl)).trans (hp 39 (by omega))
        have e226 : F.eval (.tmp 226) = .int .i64 0 := e226'
        have t226 := act_tmp e226
        clear e226'
        clear hat hoff hp
        exact wp_value' (.bool false) W (by unfold execOp; go_simp) ⟨_, rfl, rfl, hGW, hrefl W⟩
      | 41 =>
        conv at ho => lhs; whnf; arg 1; whnf
        injection ho with ho
        subst ho
        refine on_ (wanted_none rfl) ?_
        have e224' := (hat 37 224 (of_decide_eq_true (by kernel_rfl)) (by kernel_rfl)).trans (hp 37 (by omega))
        have e224 : F.eval (.tmp 224) = .bool false := e224'
        have t224 := act_tmp e224
        clear e224'
        have e227' := (hat 40 227 (of_decide_eq_true (by kernel_rfl)) (by kernel_rfl)).trans (hp 40 (by omega))
        have e227 : F.eval (.tmp 227) = .bool false := e227'
        have t227 := act_tmp e227
        clear e227'
        clear hat hoff hp
        exact wp_value' (.bool false) W (by unfold execOp; go_simp) ⟨_, rfl, rfl, hGW, hrefl W⟩
      | 42 =>
        conv at ho => lhs; whnf; arg 1; whnf
        injection ho with ho
        subst ho
        refine on_ (wanted_none rfl) ?_
        have e228' := (hat 41 228 (of_decide_eq_true (by kernel_rfl)) (by kernel_rfl)).trans (hp 41 (by omega))
        have e228 : F.eval (.tmp 228) = .bool false := e228'
        have t228 := act_tmp e228
        clear e228'
        exact wp_move' (.tmp 228) rfl ⟨_, rfl, e228, hGW, hrefl W⟩
      | 43 =>
        conv at ho => lhs; whnf; arg 1; whnf
        injection ho with ho
        subst ho
        have eg := (hat 42 229 (of_decide_eq_true (by kernel_rfl)) (by kernel_rfl)).trans (hp 42 (by omega))
        refine on_ ((wanted_by (c := false) rfl (by kernel_rfl) eg).trans rfl) ?_
        have e1 : F.eval (.tmp 1) = .pointer (some ⟨mb, 0, none⟩) := (hoff 1 (of_decide_eq_true (by kernel_rfl))).trans ha1
        have t1 := act_tmp e1
        clear hat hoff hp
        exact wp_value' (.pointer (some ⟨mb, 10, none⟩)) W (by unfold execOp; go_simp) ⟨_, rfl, rfl, hGW, hrefl W⟩
      | 44 =>
        conv at ho => lhs; whnf; arg 1; whnf
        injection ho with ho
        subst ho
        have eg := (hat 42 229 (of_decide_eq_true (by kernel_rfl)) (by kernel_rfl)).trans (hp 42 (by omega))
        refine on_ ((wanted_by (c := false) rfl (by kernel_rfl) eg).trans rfl) ?_
        have e230' := (hat 43 230 (of_decide_eq_true (by kernel_rfl)) (by kernel_rfl)).trans (hp 43 (by omega))
        have e230 : F.eval (.tmp 230) = .pointer (some ⟨mb, 10, none⟩) := e230'
        have t230 := act_tmp e230
        clear e230'
        clear hat hoff hp
        have d := hGW.1.cell 10
        simp at d
        exact wp_value' (.int .i64 0) W (by unfold execOp; go_simp) ⟨_, rfl, rfl, hGW, hrefl W⟩
      | 45 =>
        conv at ho => lhs; whnf; arg 1; whnf
        injection ho with ho
        subst ho
        have eg := (hat 42 229 (of_decide_eq_true (by kernel_rfl)) (by kernel_rfl)).trans (hp 42 (by omega))
        refine on_ ((wanted_by (c := false) rfl (by kernel_rfl) eg).trans rfl) ?_
        have e231' := (hat 44 231 (of_decide_eq_true (by kernel_rfl)) (by kernel_rfl)).trans (hp 44 (by omega))
        have e231 : F.eval (.tmp 231) = .int .i64 0 := e231'
        have t231 := act_tmp e231
        clear e231'
        clear hat hoff hp
        exact wp_value' (.bool false) W (by unfold execOp; go_simp) ⟨_, rfl, rfl, hGW, hrefl W⟩
      | 46 =>
        conv at ho => lhs; whnf; arg 1; whnf
        injection ho with ho
        subst ho
        refine on_ (wanted_none rfl) ?_
        have e229' := (hat 42 229 (of_decide_eq_true (by kernel_rfl)) (by kernel_rfl)).trans (hp 42 (by omega))
        have e229 : F.eval (.tmp 229) = .bool false := e229'
        have t229 := act_tmp e229
        clear e229'
        have e232' := (hat 45 232 (of_decide_eq_true (by kernel_rfl)) (by kernel_rfl)).trans (hp 45 (by omega))
        have e232 : F.eval (.tmp 232) = .bool false := e232'
        have t232 := act_tmp e232
        clear e232'
        clear hat hoff hp
        exact wp_value' (.bool false) W (by unfold execOp; go_simp) ⟨_, rfl, rfl, hGW, hrefl W⟩
      | 47 =>
        conv at ho => lhs; whnf; arg 1; whnf
        injection ho with ho
        subst ho
        refine on_ (wanted_none rfl) ?_
        have e233' := (hat 46 233 (of_decide_eq_true (by kernel_rfl)) (by kernel_rfl)).trans (hp 46 (by omega))
        have e233 : F.eval (.tmp 233) = .bool false := e233'
        have t233 := act_tmp e233
        clear e233'
        exact wp_move' (.tmp 233) rfl ⟨_, rfl, e233, hGW, hrefl W⟩
      | 48 =>
        conv at ho => lhs; whnf; arg 1; whnf
        injection ho with ho
        subst ho
        have eg := (hat 47 234 (of_decide_eq_true (by kernel_rfl)) (by kernel_rfl)).trans (hp 47 (by omega))
        refine on_ ((wanted_by (c := false) rfl (by kernel_rfl) eg).trans rfl) ?_
        have e1 : F.eval (.tmp 1) = .pointer (some ⟨mb, 0, none⟩) := (hoff 1 (of_decide_eq_true (by kernel_rfl))).trans ha1
        have t1 := act_tmp e1
        clear hat hoff hp
        exact wp_value' (.pointer (some ⟨mb, 10, none⟩)) W (by unfold execOp; go_simp) ⟨_, rfl, rfl, hGW, hrefl W⟩
      | 49 =>
        conv at ho => lhs; whnf; arg 1; whnf
        injection ho with ho
        subst ho
        have eg := (hat 47 234 (of_decide_eq_true (by kernel_rfl)) (by kernel_rfl)).trans (hp 47 (by omega))
        refine on_ ((wanted_by (c := false) rfl (by kernel_rfl) eg).trans rfl) ?_
        have e235' := (hat 48 235 (of_decide_eq_true (by kernel_rfl)) (by kernel_rfl)).trans (hp 48 (by omega))
        have e235 : F.eval (.tmp 235) = .pointer (some ⟨mb, 10, none⟩) := e235'
        have t235 := act_tmp e235
        clear e235'
        clear hat hoff hp
        have d := hGW.1.cell 10
        simp at d
        exact wp_value' (.int .i64 0) W (by unfold execOp; go_simp) ⟨_, rfl, rfl, hGW, hrefl W⟩
      | 50 =>
        conv at ho => lhs; whnf; arg 1; whnf
        injection ho with ho
        subst ho
        have eg := (hat 47 234 (of_decide_eq_true (by kernel_rfl)) (by kernel_rfl)).trans (hp 47 (by omega))
        refine on_ ((wanted_by (c := false) rfl (by kernel_rfl) eg).trans rfl) ?_
        have e236' := (hat 49 236 (of_decide_eq_true (by kernel_rfl)) (by kernel_rfl)).trans (hp 49 (by omega))
        have e236 : F.eval (.tmp 236) = .int .i64 0 := e236'
        have t236 := act_tmp e236
        clear e236'
        clear hat hoff hp
        exact wp_value' (.bool false) W (by unfold execOp; go_simp) ⟨_, rfl, rfl, hGW, hrefl W⟩
      | 51 =>
        conv at ho => lhs; whnf; arg 1; whnf
        injection ho with ho
        subst ho
        refine on_ (wanted_none rfl) ?_
        have e234' := (hat 47 234 (of_decide_eq_true (by kernel_rfl)) (by kernel_rfl)).trans (hp 47 (by omega))
        have e234 : F.eval (.tmp 234) = .bool false := e234'
        have t234 := act_tmp e234
        clear e234'
        have e237' := (hat 50 237 (of_decide_eq_true (by kernel_rfl)) (by kernel_rfl)).trans (hp 50 (by omega))
        have e237 : F.eval (.tmp 237) = .bool false := e237'
        have t237 := act_tmp e237
        clear e237'
        clear hat hoff hp
        exact wp_value' (.bool false) W (by unfold execOp; go_simp) ⟨_, rfl, rfl, hGW, hrefl W⟩
      | 52 =>
        conv at ho => lhs; whnf; arg 1; whnf
        injection ho with ho
        subst ho
        refine on_ (wanted_none rfl) ?_
        have e238' := (hat 51 238 (of_decide_eq_true (by kernel_rfl)) (by kernel_rfl)).trans (hp 51 (by omega))
        have e238 : F.eval (.tmp 238) = .bool false := e238'
        have t238 := act_tmp e238
        clear e238'
        exact wp_move' (.tmp 238) rfl ⟨_, rfl, e238, hGW, hrefl W⟩
      | 53 =>
        conv at ho => lhs; whnf; arg 1; whnf
        injection ho with ho
        subst ho
        have eg := (hat 52 239 (of_decide_eq_true (by kernel_rfl)) (by kernel_rfl)).trans (hp 52 (by omega))
        refine on_ ((wanted_by (c := false) rfl (by kernel_rfl) eg).trans rfl) ?_
        have e1 : F.eval (.tmp 1) = .pointer (some ⟨mb, 0, none⟩) := (hoff 1 (of_decide_eq_true (by kernel_rfl))).trans ha1
        have t1 := act_tmp e1
        clear hat hoff hp
        exact wp_value' (.pointer (some ⟨mb, 9, none⟩)) W (by unfold execOp; go_simp) ⟨_, rfl, rfl, hGW, hrefl W⟩
      | 54 =>
        conv at ho => lhs; whnf; arg 1; whnf
        injection ho with ho
        subst ho
        have eg := (hat 52 239 (of_decide_eq_true (by kernel_rfl)) (by kernel_rfl)).trans (hp 52 (by omega))
        refine on_ ((wanted_by (c := false) rfl (by kernel_rfl) eg).trans rfl) ?_
        have e240' := (hat 53 240 (of_decide_eq_true (by kernel_rfl)) (by kernel_rfl)).trans (hp 53 (by omega))
        have e240 : F.eval (.tmp 240) = .pointer (some ⟨mb, 9, none⟩) := e240'
        have t240 := act_tmp e240
        clear e240'
        clear hat hoff hp
        have d := hGW.1.cell 9
        simp at d
        exact wp_value' (.int .i64 epoch) W (by unfold execOp; go_simp) ⟨_, rfl, rfl, hGW, hrefl W⟩
      | 55 =>
        conv at ho => lhs; whnf; arg 1; whnf
        injection ho with ho
        subst ho
        have eg := (hat 52 239 (of_decide_eq_true (by kernel_rfl)) (by kernel_rfl)).trans (hp 52 (by omega))
        refine on_ ((wanted_by (c := false) rfl (by kernel_rfl) eg).trans rfl) ?_
        have e241' := (hat 54 241 (of_decide_eq_true (by kernel_rfl)) (by kernel_rfl)).trans (hp 54 (by omega))
        have e241 : F.eval (.tmp 241) = .int .i64 epoch := e241'
        have t241 := act_tmp e241
        clear e241'
        clear hat hoff hp
        exact wp_value' (.bool (decide (epoch < 0))) W (by unfold execOp; go_simp) ⟨_, rfl, rfl, hGW, hrefl W⟩
      | 56 =>
        conv at ho => lhs; whnf; arg 1; whnf
        injection ho with ho
        subst ho
        refine on_ (wanted_none rfl) ?_
        have e239' := (hat 52 239 (of_decide_eq_true (by kernel_rfl)) (by kernel_rfl)).trans (hp 52 (by omega))
        have e239 : F.eval (.tmp 239) = .bool false := e239'
        have t239 := act_tmp e239
        clear e239'
        have e242' := (hat 55 242 (of_decide_eq_true (by kernel_rfl)) (by kernel_rfl)).trans (hp 55 (by omega))
        have e242 : F.eval (.tmp 242) = .bool (decide (epoch < 0)) := e242'
        have t242 := act_tmp e242
        clear e242'
        clear hat hoff hp
        exact wp_value' (.bool (decide (epoch < 0))) W (by unfold execOp; go_simp) ⟨_, rfl, rfl, hGW, hrefl W⟩
      | 57 =>
        conv at ho => lhs; whnf; arg 1; whnf
        injection ho with ho
        subst ho
        refine on_ (wanted_none rfl) ?_
        have e243' := (hat 56 243 (of_decide_eq_true (by kernel_rfl)) (by kernel_rfl)).trans (hp 56 (by omega))
        have e243 : F.eval (.tmp 243) = .bool (decide (epoch < 0)) := e243'
        have t243 := act_tmp e243
        clear e243'
        exact wp_move' (.tmp 243) rfl ⟨_, rfl, e243, hGW, hrefl W⟩
      | 58 =>
        conv at ho => lhs; whnf; arg 1; whnf
        injection ho with ho
        subst ho
        cases q0 : (decide (epoch < 0)) with
        | true =>
          have eg := (hat 57 244 (of_decide_eq_true (by kernel_rfl)) (by kernel_rfl)).trans (hp 57 (by omega))
          rw [q0] at eg
          exact off_ (W := W) ((wanted_by (c := true) rfl (by kernel_rfl) eg).trans rfl) rfl
        | false =>
          have eg := (hat 57 244 (of_decide_eq_true (by kernel_rfl)) (by kernel_rfl)).trans (hp 57 (by omega))
          rw [q0] at eg
          refine on_ ((wanted_by (c := false) rfl (by kernel_rfl) eg).trans rfl) ?_
          have e1 : F.eval (.tmp 1) = .pointer (some ⟨mb, 0, none⟩) := (hoff 1 (of_decide_eq_true (by kernel_rfl))).trans ha1
          have t1 := act_tmp e1
          clear hat hoff hp
          exact wp_value' (.pointer (some ⟨mb, 9, none⟩)) W (by unfold execOp; go_simp) ⟨_, rfl, rfl, hGW, hrefl W⟩
      | 59 =>
        conv at ho => lhs; whnf; arg 1; whnf
        injection ho with ho
        subst ho
        cases q0 : (decide (epoch < 0)) with
        | true =>
          have eg := (hat 57 244 (of_decide_eq_true (by kernel_rfl)) (by kernel_rfl)).trans (hp 57 (by omega))
          rw [q0] at eg
          exact off_ (W := W) ((wanted_by (c := true) rfl (by kernel_rfl) eg).trans rfl) rfl
        | false =>
          have eg := (hat 57 244 (of_decide_eq_true (by kernel_rfl)) (by kernel_rfl)).trans (hp 57 (by omega))
          rw [q0] at eg
          refine on_ ((wanted_by (c := false) rfl (by kernel_rfl) eg).trans rfl) ?_
          have e245' := (hat 58 245 (of_decide_eq_true (by kernel_rfl)) (by kernel_rfl)).trans (hp 58 (by omega))
          rw [q0] at e245'
          have e245 : F.eval (.tmp 245) = .pointer (some ⟨mb, 9, none⟩) := e245'
          have t245 := act_tmp e245
          clear e245'
          clear hat hoff hp
          have d := hGW.1.cell 9
          simp at d
          exact wp_value' (.int .i64 epoch) W (by unfold execOp; go_simp) ⟨_, rfl, rfl, hGW, hrefl W⟩
      | 60 =>
        conv at ho => lhs; whnf; arg 1; whnf
        injection ho with ho
        subst ho
        cases q0 : (decide (epoch < 0)) with
        | true =>
          have eg := (hat 57 244 (of_decide_eq_true (by kernel_rfl)) (by kernel_rfl)).trans (hp 57 (by omega))
          rw [q0] at eg
          exact off_ (W := W) ((wanted_by (c := true) rfl (by kernel_rfl) eg).trans rfl) rfl
        | false =>
          have eg := (hat 57 244 (of_decide_eq_true (by kernel_rfl)) (by kernel_rfl)).trans (hp 57 (by omega))
          rw [q0] at eg
          refine on_ ((wanted_by (c := false) rfl (by kernel_rfl) eg).trans rfl) ?_
          have e246' := (hat 59 246 (of_decide_eq_true (by kernel_rfl)) (by kernel_rfl)).trans (hp 59 (by omega))
          rw [q0] at e246'
          have e246 : F.eval (.tmp 246) = .int .i64 epoch := e246'
          have t246 := act_tmp e246
          clear e246'
          clear hat hoff hp
          exact wp_value' (.bool (decide (16 < epoch))) W (by unfold execOp; go_simp) ⟨_, rfl, rfl, hGW, hrefl W⟩
      | 61 =>
        conv at ho => lhs; whnf; arg 1; whnf
        injection ho with ho
        subst ho
        refine on_ (wanted_none rfl) ?_
        cases qp : (decide (epoch < 0)) with
        | true =>
          have e244' := (hat 57 244 (of_decide_eq_true (by kernel_rfl)) (by kernel_rfl)).trans (hp 57 (by omega))
          have e244 : F.eval (.tmp 244) = .bool (decide (epoch < 0)) := e244'
          have t244 := act_tmp e244
          clear e244'
          rw [qp] at t244
          clear hat hoff hp
          exact wp_value' (.bool true) W (by unfold execOp; go_simp) ⟨_, rfl, rfl, hGW, hrefl W⟩
        | false =>
          have e244' := (hat 57 244 (of_decide_eq_true (by kernel_rfl)) (by kernel_rfl)).trans (hp 57 (by omega))
          have e244 : F.eval (.tmp 244) = .bool (decide (epoch < 0)) := e244'
          have t244 := act_tmp e244
          clear e244'
          rw [qp] at t244
          have e247' := (hat 60 247 (of_decide_eq_true (by kernel_rfl)) (by kernel_rfl)).trans (hp 60 (by omega))
          rw [qp] at e247'
          have e247 : F.eval (.tmp 247) = .bool (decide (16 < epoch)) := e247'
          have t247 := act_tmp e247
          clear e247'
          clear hat hoff hp
          exact wp_value' (.bool (decide (16 < epoch))) W (by unfold execOp; go_simp) ⟨_, rfl, rfl, hGW, hrefl W⟩
      | 62 =>
        conv at ho => lhs; whnf; arg 1; whnf
        injection ho with ho
        subst ho
        refine on_ (wanted_none rfl) ?_
        have e248' := (hat 61 248 (of_decide_eq_true (by kernel_rfl)) (by kernel_rfl)).trans (hp 61 (by omega))
        have e248 : F.eval (.tmp 248) = .bool ((decide (epoch < 0)) || (decide (16 < epoch))) := e248'
        have t248 := act_tmp e248
        clear e248'
        exact wp_move' (.tmp 248) rfl ⟨_, rfl, e248, hGW, hrefl W⟩
      | 63 =>
        conv at ho => lhs; whnf; arg 1; whnf
        injection ho with ho
        subst ho
        cases q0 : ((decide (epoch < 0)) || (decide (16 < epoch))) with
        | true =>
          have eg := (hat 62 249 (of_decide_eq_true (by kernel_rfl)) (by kernel_rfl)).trans (hp 62 (by omega))
          rw [q0] at eg
          exact off_ (W := W) ((wanted_by (c := true) rfl (by kernel_rfl) eg).trans rfl) rfl
        | false =>
          have eg := (hat 62 249 (of_decide_eq_true (by kernel_rfl)) (by kernel_rfl)).trans (hp 62 (by omega))
          rw [q0] at eg
          refine on_ ((wanted_by (c := false) rfl (by kernel_rfl) eg).trans rfl) ?_
          have e1 : F.eval (.tmp 1) = .pointer (some ⟨mb, 0, none⟩) := (hoff 1 (of_decide_eq_true (by kernel_rfl))).trans ha1
          have t1 := act_tmp e1
          clear hat hoff hp
          exact wp_value' (.pointer (some ⟨mb, 11, none⟩)) W (by unfold execOp; go_simp) ⟨_, rfl, rfl, hGW, hrefl W⟩
      | 64 =>
        conv at ho => lhs; whnf; arg 1; whnf
        injection ho with ho
        subst ho
        cases q0 : ((decide (epoch < 0)) || (decide (16 < epoch))) with
        | true =>
          have eg := (hat 62 249 (of_decide_eq_true (by kernel_rfl)) (by kernel_rfl)).trans (hp 62 (by omega))
          rw [q0] at eg
          exact off_ (W := W) ((wanted_by (c := true) rfl (by kernel_rfl) eg).trans rfl) rfl
        | false =>
          have eg := (hat 62 249 (of_decide_eq_true (by kernel_rfl)) (by kernel_rfl)).trans (hp 62 (by omega))
          rw [q0] at eg
          refine on_ ((wanted_by (c := false) rfl (by kernel_rfl) eg).trans rfl) ?_
          have e250' := (hat 63 250 (of_decide_eq_true (by kernel_rfl)) (by kernel_rfl)).trans (hp 63 (by omega))
          rw [q0] at e250'
          have e250 : F.eval (.tmp 250) = .pointer (some ⟨mb, 11, none⟩) := e250'
          have t250 := act_tmp e250
          clear e250'
          clear hat hoff hp
          have d := hGW.1.cell 11
          have d' := hGW.1.cell 12
          simp at d d'
          exact wp_value' (.agg #[.int .i64 atN, .int .i64 atE]) W (by unfold execOp; go_simp) ⟨_, rfl, rfl, hGW, hrefl W⟩
      | 65 =>
        conv at ho => lhs; whnf; arg 1; whnf
        injection ho with ho
        subst ho
        cases q0 : ((decide (epoch < 0)) || (decide (16 < epoch))) with
        | true =>
          have eg := (hat 62 249 (of_decide_eq_true (by kernel_rfl)) (by kernel_rfl)).trans (hp 62 (by omega))
          rw [q0] at eg
          exact off_ (W := W) ((wanted_by (c := true) rfl (by kernel_rfl) eg).trans rfl) rfl
        | false =>
          have eg := (hat 62 249 (of_decide_eq_true (by kernel_rfl)) (by kernel_rfl)).trans (hp 62 (by omega))
          rw [q0] at eg
          refine on_ ((wanted_by (c := false) rfl (by kernel_rfl) eg).trans rfl) ?_
          have e251' := (hat 64 251 (of_decide_eq_true (by kernel_rfl)) (by kernel_rfl)).trans (hp 64 (by omega))
          rw [q0] at e251'
          have e251 : F.eval (.tmp 251) = .agg #[.int .i64 atN, .int .i64 atE] := e251'
          have t251 := act_tmp e251
          clear e251'
          clear hat hoff hp
          refine wp_enter' 100 #[.agg #[.int .i64 atN, .int .i64 atE]] (by unfold execOp; go_simp) ?_
          refine (rplace_any atN atE W).mono ?_
          rintro e W' ⟨rfl, hb⟩
          exact ⟨_, rfl, _, rfl, rfl, ⟨hGW.1.below hb hGW.1.lt, hGW.2.trans (hb.mono hGW.2.size)⟩, trivial⟩
      | 66 =>
        conv at ho => lhs; whnf; arg 1; whnf
        injection ho with ho
        subst ho
        cases q0 : ((decide (epoch < 0)) || (decide (16 < epoch))) with
        | true =>
          have eg := (hat 62 249 (of_decide_eq_true (by kernel_rfl)) (by kernel_rfl)).trans (hp 62 (by omega))
          rw [q0] at eg
          exact off_ (W := W) ((wanted_by (c := true) rfl (by kernel_rfl) eg).trans rfl) rfl
        | false =>
          have eg := (hat 62 249 (of_decide_eq_true (by kernel_rfl)) (by kernel_rfl)).trans (hp 62 (by omega))
          rw [q0] at eg
          refine on_ ((wanted_by (c := false) rfl (by kernel_rfl) eg).trans rfl) ?_
          have e252' := (hat 65 252 (of_decide_eq_true (by kernel_rfl)) (by kernel_rfl)).trans (hp 65 (by omega))
          rw [q0] at e252'
          have e252 : F.eval (.tmp 252) = .bool (placeB atN atE) := e252'
          have t252 := act_tmp e252
          clear e252'
          clear hat hoff hp
          exact wp_value' (.bool (!(placeB atN atE))) W (by unfold execOp; go_simp) ⟨_, rfl, rfl, hGW, hrefl W⟩
      | 67 =>
        conv at ho => lhs; whnf; arg 1; whnf
        injection ho with ho
        subst ho
        refine on_ (wanted_none rfl) ?_
        cases qp : ((decide (epoch < 0)) || (decide (16 < epoch))) with
        | true =>
          have e249' := (hat 62 249 (of_decide_eq_true (by kernel_rfl)) (by kernel_rfl)).trans (hp 62 (by omega))
          have e249 : F.eval (.tmp 249) = .bool ((decide (epoch < 0)) || (decide (16 < epoch))) := e249'
          have t249 := act_tmp e249
          clear e249'
          rw [qp] at t249
          clear hat hoff hp
          exact wp_value' (.bool true) W (by unfold execOp; go_simp) ⟨_, rfl, rfl, hGW, hrefl W⟩
        | false =>
          have e249' := (hat 62 249 (of_decide_eq_true (by kernel_rfl)) (by kernel_rfl)).trans (hp 62 (by omega))
          have e249 : F.eval (.tmp 249) = .bool ((decide (epoch < 0)) || (decide (16 < epoch))) := e249'
          have t249 := act_tmp e249
          clear e249'
          rw [qp] at t249
          have e253' := (hat 66 253 (of_decide_eq_true (by kernel_rfl)) (by kernel_rfl)).trans (hp 66 (by omega))
          rw [qp] at e253'
          have e253 : F.eval (.tmp 253) = .bool (!(placeB atN atE)) := e253'
          have t253 := act_tmp e253
          clear e253'
          clear hat hoff hp
          exact wp_value' (.bool (!(placeB atN atE))) W (by unfold execOp; go_simp) ⟨_, rfl, rfl, hGW, hrefl W⟩
      | 68 =>
        conv at ho => lhs; whnf; arg 1; whnf
        injection ho with ho
        subst ho
        refine on_ (wanted_none rfl) ?_
        have e254' := (hat 67 254 (of_decide_eq_true (by kernel_rfl)) (by kernel_rfl)).trans (hp 67 (by omega))
        have e254 : F.eval (.tmp 254) = .bool (((decide (epoch < 0)) || (decide (16 < epoch))) || (!(placeB atN atE))) := e254'
        have t254 := act_tmp e254
        clear e254'
        exact wp_move' (.tmp 254) rfl ⟨_, rfl, e254, hGW, hrefl W⟩
      | 69 =>
        conv at ho => lhs; whnf; arg 1; whnf
        injection ho with ho
        subst ho
        cases q0 : (((decide (epoch < 0)) || (decide (16 < epoch))) || (!(placeB atN atE))) with
        | true =>
          have eg := (hat 68 255 (of_decide_eq_true (by kernel_rfl)) (by kernel_rfl)).trans (hp 68 (by omega))
          rw [q0] at eg
          exact off_ (W := W) ((wanted_by (c := true) rfl (by kernel_rfl) eg).trans rfl) rfl
        | false =>
          have eg := (hat 68 255 (of_decide_eq_true (by kernel_rfl)) (by kernel_rfl)).trans (hp 68 (by omega))
          rw [q0] at eg
          refine on_ ((wanted_by (c := false) rfl (by kernel_rfl) eg).trans rfl) ?_
          have e1 : F.eval (.tmp 1) = .pointer (some ⟨mb, 0, none⟩) := (hoff 1 (of_decide_eq_true (by kernel_rfl))).trans ha1
          have t1 := act_tmp e1
          clear hat hoff hp
          exact wp_value' (.pointer (some ⟨mb, 13, none⟩)) W (by unfold execOp; go_simp) ⟨_, rfl, rfl, hGW, hrefl W⟩
      | 70 =>
        conv at ho => lhs; whnf; arg 1; whnf
        injection ho with ho
        subst ho
        cases q0 : (((decide (epoch < 0)) || (decide (16 < epoch))) || (!(placeB atN atE))) with
        | true =>
          have eg := (hat 68 255 (of_decide_eq_true (by kernel_rfl)) (by kernel_rfl)).trans (hp 68 (by omega))
          rw [q0] at eg
          exact off_ (W := W) ((wanted_by (c := true) rfl (by kernel_rfl) eg).trans rfl) rfl
        | false =>
          have eg := (hat 68 255 (of_decide_eq_true (by kernel_rfl)) (by kernel_rfl)).trans (hp 68 (by omega))
          rw [q0] at eg
          refine on_ ((wanted_by (c := false) rfl (by kernel_rfl) eg).trans rfl) ?_
          have e256' := (hat 69 256 (of_decide_eq_true (by kernel_rfl)) (by kernel_rfl)).trans (hp 69 (by omega))
          rw [q0] at e256'
          have e256 : F.eval (.tmp 256) = .pointer (some ⟨mb, 13, none⟩) := e256'
          have t256 := act_tmp e256
          clear e256'
          clear hat hoff hp
          have d := hGW.1.cell 13
          have d' := hGW.1.cell 14
          simp at d d'
          exact wp_value' (.agg #[.int .i64 whN, .int .i64 whE]) W (by unfold execOp; go_simp) ⟨_, rfl, rfl, hGW, hrefl W⟩
      | 71 =>
        conv at ho => lhs; whnf; arg 1; whnf
        injection ho with ho
        subst ho
        cases q0 : (((decide (epoch < 0)) || (decide (16 < epoch))) || (!(placeB atN atE))) with
        | true =>
          have eg := (hat 68 255 (of_decide_eq_true (by kernel_rfl)) (by kernel_rfl)).trans (hp 68 (by omega))
          rw [q0] at eg
          exact off_ (W := W) ((wanted_by (c := true) rfl (by kernel_rfl) eg).trans rfl) rfl
        | false =>
          have eg := (hat 68 255 (of_decide_eq_true (by kernel_rfl)) (by kernel_rfl)).trans (hp 68 (by omega))
          rw [q0] at eg
          refine on_ ((wanted_by (c := false) rfl (by kernel_rfl) eg).trans rfl) ?_
          have e257' := (hat 70 257 (of_decide_eq_true (by kernel_rfl)) (by kernel_rfl)).trans (hp 70 (by omega))
          rw [q0] at e257'
          have e257 : F.eval (.tmp 257) = .agg #[.int .i64 whN, .int .i64 whE] := e257'
          have t257 := act_tmp e257
          clear e257'
          clear hat hoff hp
          refine wp_enter' 100 #[.agg #[.int .i64 whN, .int .i64 whE]] (by unfold execOp; go_simp) ?_
          refine (rplace_any whN whE W).mono ?_
          rintro e W' ⟨rfl, hb⟩
          exact ⟨_, rfl, _, rfl, rfl, ⟨hGW.1.below hb hGW.1.lt, hGW.2.trans (hb.mono hGW.2.size)⟩, trivial⟩
      | 72 =>
        conv at ho => lhs; whnf; arg 1; whnf
        injection ho with ho
        subst ho
        cases q0 : (((decide (epoch < 0)) || (decide (16 < epoch))) || (!(placeB atN atE))) with
        | true =>
          have eg := (hat 68 255 (of_decide_eq_true (by kernel_rfl)) (by kernel_rfl)).trans (hp 68 (by omega))
          rw [q0] at eg
          exact off_ (W := W) ((wanted_by (c := true) rfl (by kernel_rfl) eg).trans rfl) rfl
        | false =>
          have eg := (hat 68 255 (of_decide_eq_true (by kernel_rfl)) (by kernel_rfl)).trans (hp 68 (by omega))
          rw [q0] at eg
          refine on_ ((wanted_by (c := false) rfl (by kernel_rfl) eg).trans rfl) ?_
          have e258' := (hat 71 258 (of_decide_eq_true (by kernel_rfl)) (by kernel_rfl)).trans (hp 71 (by omega))
          rw [q0] at e258'
          have e258 : F.eval (.tmp 258) = .bool (placeB whN whE) := e258'
          have t258 := act_tmp e258
          clear e258'
          clear hat hoff hp
          exact wp_value' (.bool (!(placeB whN whE))) W (by unfold execOp; go_simp) ⟨_, rfl, rfl, hGW, hrefl W⟩
      | 73 =>
        conv at ho => lhs; whnf; arg 1; whnf
        injection ho with ho
        subst ho
        refine on_ (wanted_none rfl) ?_
        cases qp : (((decide (epoch < 0)) || (decide (16 < epoch))) || (!(placeB atN atE))) with
        | true =>
          have e255' := (hat 68 255 (of_decide_eq_true (by kernel_rfl)) (by kernel_rfl)).trans (hp 68 (by omega))
          have e255 : F.eval (.tmp 255) = .bool (((decide (epoch < 0)) || (decide (16 < epoch))) || (!(placeB atN atE))) := e255'
          have t255 := act_tmp e255
          clear e255'
          rw [qp] at t255
          clear hat hoff hp
          exact wp_value' (.bool true) W (by unfold execOp; go_simp) ⟨_, rfl, rfl, hGW, hrefl W⟩
        | false =>
          have e255' := (hat 68 255 (of_decide_eq_true (by kernel_rfl)) (by kernel_rfl)).trans (hp 68 (by omega))
          have e255 : F.eval (.tmp 255) = .bool (((decide (epoch < 0)) || (decide (16 < epoch))) || (!(placeB atN atE))) := e255'
          have t255 := act_tmp e255
          clear e255'
          rw [qp] at t255
          have e259' := (hat 72 259 (of_decide_eq_true (by kernel_rfl)) (by kernel_rfl)).trans (hp 72 (by omega))
          rw [qp] at e259'
          have e259 : F.eval (.tmp 259) = .bool (!(placeB whN whE)) := e259'
          have t259 := act_tmp e259
          clear e259'
          clear hat hoff hp
          exact wp_value' (.bool (!(placeB whN whE))) W (by unfold execOp; go_simp) ⟨_, rfl, rfl, hGW, hrefl W⟩
      | i + 74 => exact (none_past (n := 74) (by kernel_rfl) ho).elim
  case hend =>
    intro U W hGW hV
    have hx : U 73 = .bool ((((decide (epoch < 0)) || (decide (16 < epoch))) || (!(placeB atN atE))) || (!(placeB whN whE))) := hV 73 (of_decide_eq_true (by kernel_rfl))
    refine HQ.out _ _ ⟨?_, ?_, ?_, ?_, trivial⟩ hGW.1 hGW.2
    · rw [putU_defers]; exact hfr.1
    · rw [putU_size]; exact hfr.2.1
    · rw [putU_old 1 (of_decide_eq_true (by kernel_rfl))]; exact hfr.2.2.1
    · rw [putU_get (by rw [hfr.2.1]; kernel_rfl) 73 260 (of_decide_eq_true (by kernel_rfl)) (by kernel_rfl), hx, c34_eq]

set_option maxRecDepth 100000 in
set_option maxHeartbeats 4000000 in
theorem right36 (w : World) (Q : Exit → Act → World → Prop) (a : Act) (mb : Nat) {good : Bool} {eA : Option Addr} {ec : Nat} {data : ByteArray} {hA : Option Addr} {hc : Nat} {epoch atN atE whN whE : Int} {oA : Option Addr} {on oc : Nat} {pA : Option Addr} {pc : Nat} (holes : List Int) {S : Nat → Prop}
    (hfr : Fr 391 a [(1, .pointer (some ⟨mb, 0, none⟩))]) (hm : Blk w mb 30 (mailC 10 0 0 0 0 good eA 0 ec data hA 0 hc epoch 0 atN atE whN whE oA on oc pA 0 pc)) (ho : IntIs w S oA on oc holes) (hz : on ≤ 140737488351232)
    (hQ : ∀ a' w', Fr 391 a' [(1, .pointer (some ⟨mb, 0, none⟩)), (292, .bool (!(riseB whN 0 holes)))] → Blk w' mb 30 (mailC 10 0 0 0 0 good eA 0 ec data hA 0 hc epoch 0 atN atE whN whE oA on oc pA 0 pc) → Below w.heap.size w w' → Q .normal a' w') :
    (part [1, 1, 1, 1, 1, 1, 1, 0, 0] (codeOf rightF)).wp Try.prog Q a w := by
  have ha1 : a.eval (.tmp 1) = .pointer (some ⟨mb, 0, none⟩) := eval_of hfr.2.2.1
  have HQ := Lib.hid hQ
  have HM := Lib.hid hm
  have HO := Lib.hid ho
  have HZ := Lib.hid hz
  clear hQ hm ho hz
  refine wp_region_named (c := (part [1, 1, 1, 1, 1, 1, 1, 0, 0] (codeOf rightF))) (id := 36) (by kernel_rfl) (fun i v W => match i with | 0 => v = .pointer (some ⟨mb, 6, none⟩) | 1 => v = .slice eA 0 ec | 2 => v = .int .i64 0 | 3 => v = .bool false | 4 => v = .bool false | 5 => v = .pointer (some ⟨mb, 0, none⟩) | 6 => v = .int .i64 10 | 7 => v = .bool false | 8 => v = .bool false | 9 => v = undef | 10 => v = undef | 11 => v = undef | 12 => v = undef | 13 => v = undef | 14 => v = undef | 15 => v = undef | 16 => v = .bool false | 17 => v = .bool false | 18 => v = .bool false | 19 => v = .pointer (some ⟨mb, 0, none⟩) | 20 => v = .int .i64 10 | 21 => v = .bool true | 22 => v = .bool true | 23 => v = .pointer (some ⟨mb, 15, none⟩) | 24 => v = .slice oA on oc | 25 => v = .pointer (some ⟨mb, 13, none⟩) | 26 => v = .pointer (some ⟨mb, 13, none⟩) | 27 => v = .int .i64 whN | 28 => v = .bool (riseB whN 0 holes) | 29 => v = .bool (!(riseB whN 0 holes)) | 30 => v = .bool (!(riseB whN 0 holes)) | 31 => v = .bool (!(riseB whN 0 holes)) | _ => True) (fun W => Blk W mb 30 (mailC 10 0 0 0 0 good eA 0 ec data hA 0 hc epoch 0 atN atE whN whE oA on oc pA 0 pc) ∧ Below w.heap.size w W) (fun W W' => True) ?hsz ?hG ?hmono ?hstep ?hend
  case hsz => rw [hfr.2.1]; kernel_rfl
  case hG => exact ⟨HM.out, Below.refl _ _⟩
  case hmono =>
    intro i v W W' hx hv
    exact hv
  case hstep =>
    intro i o F U W ho hGW hat hoff hp
    have hrefl := fun _ : World => trivial
    match i with
      | 0 =>
        conv at ho => lhs; whnf; arg 1; whnf
        injection ho with ho
        subst ho
        refine on_ (wanted_none rfl) ?_
        have e1 : F.eval (.tmp 1) = .pointer (some ⟨mb, 0, none⟩) := (hoff 1 (of_decide_eq_true (by kernel_rfl))).trans ha1
        have t1 := act_tmp e1
        clear hat hoff hp
        exact wp_value' (.pointer (some ⟨mb, 6, none⟩)) W (by unfold execOp; go_simp) ⟨_, rfl, rfl, hGW, hrefl W⟩
      | 1 =>
        conv at ho => lhs; whnf; arg 1; whnf
        injection ho with ho
        subst ho
        refine on_ (wanted_none rfl) ?_
        have e261' := (hat 0 261 (of_decide_eq_true (by kernel_rfl)) (by kernel_rfl)).trans (hp 0 (by omega))
        have e261 : F.eval (.tmp 261) = .pointer (some ⟨mb, 6, none⟩) := e261'
        have t261 := act_tmp e261
        clear e261'
        clear hat hoff hp
        have d := hGW.1.cell 6
        simp at d
        exact wp_value' (.slice eA 0 ec) W (by unfold execOp; go_simp) ⟨_, rfl, rfl, hGW, hrefl W⟩
      | 2 =>
        conv at ho => lhs; whnf; arg 1; whnf
        injection ho with ho
        subst ho
        refine on_ (wanted_none rfl) ?_
        have e262' := (hat 1 262 (of_decide_eq_true (by kernel_rfl)) (by kernel_rfl)).trans (hp 1 (by omega))
        have e262 : F.eval (.tmp 262) = .slice eA 0 ec := e262'
        have t262 := act_tmp e262
        clear e262'
        clear hat hoff hp
        exact wp_value' (.int .i64 0) W (by unfold execOp; go_simp) ⟨_, rfl, rfl, hGW, hrefl W⟩
      | 3 =>
        conv at ho => lhs; whnf; arg 1; whnf
        injection ho with ho
        subst ho
        refine on_ (wanted_none rfl) ?_
        have e263' := (hat 2 263 (of_decide_eq_true (by kernel_rfl)) (by kernel_rfl)).trans (hp 2 (by omega))
        have e263 : F.eval (.tmp 263) = .int .i64 0 := e263'
        have t263 := act_tmp e263
        clear e263'
        clear hat hoff hp
        exact wp_value' (.bool false) W (by unfold execOp; go_simp) ⟨_, rfl, rfl, hGW, hrefl W⟩
      | 4 =>
        conv at ho => lhs; whnf; arg 1; whnf
        injection ho with ho
        subst ho
        refine on_ (wanted_none rfl) ?_
        have e264' := (hat 3 264 (of_decide_eq_true (by kernel_rfl)) (by kernel_rfl)).trans (hp 3 (by omega))
        have e264 : F.eval (.tmp 264) = .bool false := e264'
        have t264 := act_tmp e264
        clear e264'
        exact wp_move' (.tmp 264) rfl ⟨_, rfl, e264, hGW, hrefl W⟩
      | 5 =>
        conv at ho => lhs; whnf; arg 1; whnf
        injection ho with ho
        subst ho
        have eg := (hat 4 265 (of_decide_eq_true (by kernel_rfl)) (by kernel_rfl)).trans (hp 4 (by omega))
        refine on_ ((wanted_by (c := false) rfl (by kernel_rfl) eg).trans rfl) ?_
        have e1 : F.eval (.tmp 1) = .pointer (some ⟨mb, 0, none⟩) := (hoff 1 (of_decide_eq_true (by kernel_rfl))).trans ha1
        have t1 := act_tmp e1
        clear hat hoff hp
        exact wp_value' (.pointer (some ⟨mb, 0, none⟩)) W (by unfold execOp; go_simp) ⟨_, rfl, rfl, hGW, hrefl W⟩
      | 6 =>
        conv at ho => lhs; whnf; arg 1; whnf
        injection ho with ho
        subst ho
        have eg := (hat 4 265 (of_decide_eq_true (by kernel_rfl)) (by kernel_rfl)).trans (hp 4 (by omega))
        refine on_ ((wanted_by (c := false) rfl (by kernel_rfl) eg).trans rfl) ?_
        have e266' := (hat 5 266 (of_decide_eq_true (by kernel_rfl)) (by kernel_rfl)).trans (hp 5 (by omega))
        have e266 : F.eval (.tmp 266) = .pointer (some ⟨mb, 0, none⟩) := e266'
        have t266 := act_tmp e266
        clear e266'
        clear hat hoff hp
        have d := hGW.1.cell 0
        simp at d
        exact wp_value' (.int .i64 10) W (by unfold execOp; go_simp) ⟨_, rfl, rfl, hGW, hrefl W⟩
      | 7 =>
        conv at ho => lhs; whnf; arg 1; whnf
        injection ho with ho
        subst ho
        have eg := (hat 4 265 (of_decide_eq_true (by kernel_rfl)) (by kernel_rfl)).trans (hp 4 (by omega))
        refine on_ ((wanted_by (c := false) rfl (by kernel_rfl) eg).trans rfl) ?_
        have e267' := (hat 6 267 (of_decide_eq_true (by kernel_rfl)) (by kernel_rfl)).trans (hp 6 (by omega))
        have e267 : F.eval (.tmp 267) = .int .i64 10 := e267'
        have t267 := act_tmp e267
        clear e267'
        clear hat hoff hp
        exact wp_value' (.bool false) W (by unfold execOp; go_simp) ⟨_, rfl, rfl, hGW, hrefl W⟩
      | 8 =>
        conv at ho => lhs; whnf; arg 1; whnf
        injection ho with ho
        subst ho
        have eg := (hat 4 265 (of_decide_eq_true (by kernel_rfl)) (by kernel_rfl)).trans (hp 4 (by omega))
        refine on_ ((wanted_by (c := false) rfl (by kernel_rfl) eg).trans rfl) ?_
        have e268' := (hat 7 268 (of_decide_eq_true (by kernel_rfl)) (by kernel_rfl)).trans (hp 7 (by omega))
        have e268 : F.eval (.tmp 268) = .bool false := e268'
        have t268 := act_tmp e268
        clear e268'
        exact wp_move' (.tmp 268) rfl ⟨_, rfl, e268, hGW, hrefl W⟩
      | 9 =>
        conv at ho => lhs; whnf; arg 1; whnf
        injection ho with ho
        subst ho
        have eg := (hat 8 269 (of_decide_eq_true (by kernel_rfl)) (by kernel_rfl)).trans (hp 8 (by omega))
        exact off_ (W := W) ((wanted_by (c := false) rfl (by kernel_rfl) eg).trans rfl) rfl
      | 10 =>
        conv at ho => lhs; whnf; arg 1; whnf
        injection ho with ho
        subst ho
        have eg := (hat 8 269 (of_decide_eq_true (by kernel_rfl)) (by kernel_rfl)).trans (hp 8 (by omega))
        exact off_ (W := W) ((wanted_by (c := false) rfl (by kernel_rfl) eg).trans rfl) rfl
      | 11 =>
        conv at ho => lhs; whnf; arg 1; whnf
        injection ho with ho
        subst ho
        have eg := (hat 8 269 (of_decide_eq_true (by kernel_rfl)) (by kernel_rfl)).trans (hp 8 (by omega))
        exact off_ (W := W) ((wanted_by (c := false) rfl (by kernel_rfl) eg).trans rfl) rfl
      | 12 =>
        conv at ho => lhs; whnf; arg 1; whnf
        injection ho with ho
        subst ho
        have eg := (hat 8 269 (of_decide_eq_true (by kernel_rfl)) (by kernel_rfl)).trans (hp 8 (by omega))
        exact off_ (W := W) ((wanted_by (c := false) rfl (by kernel_rfl) eg).trans rfl) rfl
      | 13 =>
        conv at ho => lhs; whnf; arg 1; whnf
        injection ho with ho
        subst ho
        have eg := (hat 8 269 (of_decide_eq_true (by kernel_rfl)) (by kernel_rfl)).trans (hp 8 (by omega))
        exact off_ (W := W) ((wanted_by (c := false) rfl (by kernel_rfl) eg).trans rfl) rfl
      | 14 =>
        conv at ho => lhs; whnf; arg 1; whnf
        injection ho with ho
        subst ho
        have eg := (hat 8 269 (of_decide_eq_true (by kernel_rfl)) (by kernel_rfl)).trans (hp 8 (by omega))
        exact off_ (W := W) ((wanted_by (c := false) rfl (by kernel_rfl) eg).trans rfl) rfl
      | 15 =>
        conv at ho => lhs; whnf; arg 1; whnf
        injection ho with ho
        subst ho
        have eg := (hat 8 269 (of_decide_eq_true (by kernel_rfl)) (by kernel_rfl)).trans (hp 8 (by omega))
        exact off_ (W := W) ((wanted_by (c := false) rfl (by kernel_rfl) eg).trans rfl) rfl
      | 16 =>
        conv at ho => lhs; whnf; arg 1; whnf
        injection ho with ho
        subst ho
        have eg := (hat 4 265 (of_decide_eq_true (by kernel_rfl)) (by kernel_rfl)).trans (hp 4 (by omega))
        refine on_ ((wanted_by (c := false) rfl (by kernel_rfl) eg).trans rfl) ?_
        have e269' := (hat 8 269 (of_decide_eq_true (by kernel_rfl)) (by kernel_rfl)).trans (hp 8 (by omega))
        have e269 : F.eval (.tmp 269) = .bool false := e269'
        have t269 := act_tmp e269
        clear e269'
        clear hat hoff hp
        exact wp_value' (.bool false) W (by unfold execOp; go_simp) ⟨_, rfl, rfl, hGW, hrefl W⟩
      | 17 =>
        conv at ho => lhs; whnf; arg 1; whnf
        injection ho with ho
        subst ho
        refine on_ (wanted_none rfl) ?_
        have e265' := (hat 4 265 (of_decide_eq_true (by kernel_rfl)) (by kernel_rfl)).trans (hp 4 (by omega))
        have e265 : F.eval (.tmp 265) = .bool false := e265'
        have t265 := act_tmp e265
        clear e265'
        have e277' := (hat 16 277 (of_decide_eq_true (by kernel_rfl)) (by kernel_rfl)).trans (hp 16 (by omega))
        have e277 : F.eval (.tmp 277) = .bool false := e277'
        have t277 := act_tmp e277
        clear e277'
        clear hat hoff hp
        exact wp_value' (.bool false) W (by unfold execOp; go_simp) ⟨_, rfl, rfl, hGW, hrefl W⟩
      | 18 =>
        conv at ho => lhs; whnf; arg 1; whnf
        injection ho with ho
        subst ho
        refine on_ (wanted_none rfl) ?_
        have e278' := (hat 17 278 (of_decide_eq_true (by kernel_rfl)) (by kernel_rfl)).trans (hp 17 (by omega))
        have e278 : F.eval (.tmp 278) = .bool false := e278'
        have t278 := act_tmp e278
        clear e278'
        exact wp_move' (.tmp 278) rfl ⟨_, rfl, e278, hGW, hrefl W⟩
      | 19 =>
        conv at ho => lhs; whnf; arg 1; whnf
        injection ho with ho
        subst ho
        have eg := (hat 18 279 (of_decide_eq_true (by kernel_rfl)) (by kernel_rfl)).trans (hp 18 (by omega))
        refine on_ ((wanted_by (c := false) rfl (by kernel_rfl) eg).trans rfl) ?_
        have e1 : F.eval (.tmp 1) = .pointer (some ⟨mb, 0, none⟩) := (hoff 1 (of_decide_eq_true (by kernel_rfl))).trans ha1
        have t1 := act_tmp e1
        clear hat hoff hp
        exact wp_value' (.pointer (some ⟨mb, 0, none⟩)) W (by unfold execOp; go_simp) ⟨_, rfl, rfl, hGW, hrefl W⟩
      | 20 =>
        conv at ho => lhs; whnf; arg 1; whnf
        injection ho with ho
        subst ho
        have eg := (hat 18 279 (of_decide_eq_true (by kernel_rfl)) (by kernel_rfl)).trans (hp 18 (by omega))
        refine on_ ((wanted_by (c := false) rfl (by kernel_rfl) eg).trans rfl) ?_
        have e280' := (hat 19 280 (of_decide_eq_true (by kernel_rfl)) (by kernel_rfl)).trans (hp 19 (by omega))
        have e280 : F.eval (.tmp 280) = .pointer (some ⟨mb, 0, none⟩) := e280'
        have t280 := act_tmp e280
        clear e280'
        clear hat hoff hp
        have d := hGW.1.cell 0
        simp at d
        exact wp_value' (.int .i64 10) W (by unfold execOp; go_simp) ⟨_, rfl, rfl, hGW, hrefl W⟩
      | 21 =>
        conv at ho => lhs; whnf; arg 1; whnf
        injection ho with ho
        subst ho
        have eg := (hat 18 279 (of_decide_eq_true (by kernel_rfl)) (by kernel_rfl)).trans (hp 18 (by omega))
        refine on_ ((wanted_by (c := false) rfl (by kernel_rfl) eg).trans rfl) ?_
        have e281' := (hat 20 281 (of_decide_eq_true (by kernel_rfl)) (by kernel_rfl)).trans (hp 20 (by omega))
        have e281 : F.eval (.tmp 281) = .int .i64 10 := e281'
        have t281 := act_tmp e281
        clear e281'
        clear hat hoff hp
        exact wp_value' (.bool true) W (by unfold execOp; go_simp) ⟨_, rfl, rfl, hGW, hrefl W⟩
      | 22 =>
        conv at ho => lhs; whnf; arg 1; whnf
        injection ho with ho
        subst ho
        have eg := (hat 18 279 (of_decide_eq_true (by kernel_rfl)) (by kernel_rfl)).trans (hp 18 (by omega))
        refine on_ ((wanted_by (c := false) rfl (by kernel_rfl) eg).trans rfl) ?_
        have e282' := (hat 21 282 (of_decide_eq_true (by kernel_rfl)) (by kernel_rfl)).trans (hp 21 (by omega))
        have e282 : F.eval (.tmp 282) = .bool true := e282'
        have t282 := act_tmp e282
        clear e282'
        exact wp_move' (.tmp 282) rfl ⟨_, rfl, e282, hGW, hrefl W⟩
      | 23 =>
        conv at ho => lhs; whnf; arg 1; whnf
        injection ho with ho
        subst ho
        have eg := (hat 22 283 (of_decide_eq_true (by kernel_rfl)) (by kernel_rfl)).trans (hp 22 (by omega))
        refine on_ ((wanted_by (c := true) rfl (by kernel_rfl) eg).trans rfl) ?_
        have e1 : F.eval (.tmp 1) = .pointer (some ⟨mb, 0, none⟩) := (hoff 1 (of_decide_eq_true (by kernel_rfl))).trans ha1
        have t1 := act_tmp e1
        clear hat hoff hp
        exact wp_value' (.pointer (some ⟨mb, 15, none⟩)) W (by unfold execOp; go_simp) ⟨_, rfl, rfl, hGW, hrefl W⟩
      | 24 =>
        conv at ho => lhs; whnf; arg 1; whnf
        injection ho with ho
        subst ho
        have eg := (hat 22 283 (of_decide_eq_true (by kernel_rfl)) (by kernel_rfl)).trans (hp 22 (by omega))
        refine on_ ((wanted_by (c := true) rfl (by kernel_rfl) eg).trans rfl) ?_
        have e284' := (hat 23 284 (of_decide_eq_true (by kernel_rfl)) (by kernel_rfl)).trans (hp 23 (by omega))
        have e284 : F.eval (.tmp 284) = .pointer (some ⟨mb, 15, none⟩) := e284'
        have t284 := act_tmp e284
        clear e284'
        clear hat hoff hp
        have d := hGW.1.cell 15
        simp at d
        exact wp_value' (.slice oA on oc) W (by unfold execOp; go_simp) ⟨_, rfl, rfl, hGW, hrefl W⟩
      | 25 =>
        conv at ho => lhs; whnf; arg 1; whnf
        injection ho with ho
        subst ho
        have eg := (hat 22 283 (of_decide_eq_true (by kernel_rfl)) (by kernel_rfl)).trans (hp 22 (by omega))
        refine on_ ((wanted_by (c := true) rfl (by kernel_rfl) eg).trans rfl) ?_
        have e1 : F.eval (.tmp 1) = .pointer (some ⟨mb, 0, none⟩) := (hoff 1 (of_decide_eq_true (by kernel_rfl))).trans ha1
        have t1 := act_tmp e1
        clear hat hoff hp
        exact wp_value' (.pointer (some ⟨mb, 13, none⟩)) W (by unfold execOp; go_simp) ⟨_, rfl, rfl, hGW, hrefl W⟩
      | 26 =>
        conv at ho => lhs; whnf; arg 1; whnf
        injection ho with ho
        subst ho
        have eg := (hat 22 283 (of_decide_eq_true (by kernel_rfl)) (by kernel_rfl)).trans (hp 22 (by omega))
        refine on_ ((wanted_by (c := true) rfl (by kernel_rfl) eg).trans rfl) ?_
        have e286' := (hat 25 286 (of_decide_eq_true (by kernel_rfl)) (by kernel_rfl)).trans (hp 25 (by omega))
        have e286 : F.eval (.tmp 286) = .pointer (some ⟨mb, 13, none⟩) := e286'
        have t286 := act_tmp e286
        clear e286'
        clear hat hoff hp
        exact wp_value' (.pointer (some ⟨mb, 13, none⟩)) W (by unfold execOp; go_simp) ⟨_, rfl, rfl, hGW, hrefl W⟩
      | 27 =>
        conv at ho => lhs; whnf; arg 1; whnf
        injection ho with ho
        subst ho
        have eg := (hat 22 283 (of_decide_eq_true (by kernel_rfl)) (by kernel_rfl)).trans (hp 22 (by omega))
        refine on_ ((wanted_by (c := true) rfl (by kernel_rfl) eg).trans rfl) ?_
        have e287' := (hat 26 287 (of_decide_eq_true (by kernel_rfl)) (by kernel_rfl)).trans (hp 26 (by omega))
        have e287 : F.eval (.tmp 287) = .pointer (some ⟨mb, 13, none⟩) := e287'
        have t287 := act_tmp e287
        clear e287'
        clear hat hoff hp
        have d := hGW.1.cell 13
        simp at d
        exact wp_value' (.int .i64 whN) W (by unfold execOp; go_simp) ⟨_, rfl, rfl, hGW, hrefl W⟩
      | 28 =>
        conv at ho => lhs; whnf; arg 1; whnf
        injection ho with ho
        subst ho
        have eg := (hat 22 283 (of_decide_eq_true (by kernel_rfl)) (by kernel_rfl)).trans (hp 22 (by omega))
        refine on_ ((wanted_by (c := true) rfl (by kernel_rfl) eg).trans rfl) ?_
        have e285' := (hat 24 285 (of_decide_eq_true (by kernel_rfl)) (by kernel_rfl)).trans (hp 24 (by omega))
        have e285 : F.eval (.tmp 285) = .slice oA on oc := e285'
        have t285 := act_tmp e285
        clear e285'
        have e288' := (hat 27 288 (of_decide_eq_true (by kernel_rfl)) (by kernel_rfl)).trans (hp 27 (by omega))
        have e288 : F.eval (.tmp 288) = .int .i64 whN := e288'
        have t288 := act_tmp e288
        clear e288'
        clear hat hoff hp
        refine wp_enter' 101 #[.slice oA on oc, .int .i64 whN] (by unfold execOp; go_simp) ?_
        refine (rholes_any whN _ oA on oc holes W (HO.out.below hGW.2).1.reads HZ.out).mono ?_
        rintro e W' ⟨rfl, rfl⟩
        exact ⟨_, rfl, _, rfl, rfl, hGW, trivial⟩
      | 29 =>
        conv at ho => lhs; whnf; arg 1; whnf
        injection ho with ho
        subst ho
        have eg := (hat 22 283 (of_decide_eq_true (by kernel_rfl)) (by kernel_rfl)).trans (hp 22 (by omega))
        refine on_ ((wanted_by (c := true) rfl (by kernel_rfl) eg).trans rfl) ?_
        have e289' := (hat 28 289 (of_decide_eq_true (by kernel_rfl)) (by kernel_rfl)).trans (hp 28 (by omega))
        have e289 : F.eval (.tmp 289) = .bool (riseB whN 0 holes) := e289'
        have t289 := act_tmp e289
        clear e289'
        clear hat hoff hp
        exact wp_value' (.bool (!(riseB whN 0 holes))) W (by unfold execOp; go_simp) ⟨_, rfl, rfl, hGW, hrefl W⟩
      | 30 =>
        conv at ho => lhs; whnf; arg 1; whnf
        injection ho with ho
        subst ho
        have eg := (hat 18 279 (of_decide_eq_true (by kernel_rfl)) (by kernel_rfl)).trans (hp 18 (by omega))
        refine on_ ((wanted_by (c := false) rfl (by kernel_rfl) eg).trans rfl) ?_
        have e283' := (hat 22 283 (of_decide_eq_true (by kernel_rfl)) (by kernel_rfl)).trans (hp 22 (by omega))
        have e283 : F.eval (.tmp 283) = .bool true := e283'
        have t283 := act_tmp e283
        clear e283'
        have e290' := (hat 29 290 (of_decide_eq_true (by kernel_rfl)) (by kernel_rfl)).trans (hp 29 (by omega))
        have e290 : F.eval (.tmp 290) = .bool (!(riseB whN 0 holes)) := e290'
        have t290 := act_tmp e290
        clear e290'
        clear hat hoff hp
        exact wp_value' (.bool (!(riseB whN 0 holes))) W (by unfold execOp; go_simp) ⟨_, rfl, rfl, hGW, hrefl W⟩
      | 31 =>
        conv at ho => lhs; whnf; arg 1; whnf
        injection ho with ho
        subst ho
        refine on_ (wanted_none rfl) ?_
        have e279' := (hat 18 279 (of_decide_eq_true (by kernel_rfl)) (by kernel_rfl)).trans (hp 18 (by omega))
        have e279 : F.eval (.tmp 279) = .bool false := e279'
        have t279 := act_tmp e279
        clear e279'
        have e291' := (hat 30 291 (of_decide_eq_true (by kernel_rfl)) (by kernel_rfl)).trans (hp 30 (by omega))
        have e291 : F.eval (.tmp 291) = .bool (!(riseB whN 0 holes)) := e291'
        have t291 := act_tmp e291
        clear e291'
        clear hat hoff hp
        exact wp_value' (.bool (!(riseB whN 0 holes))) W (by unfold execOp; go_simp) ⟨_, rfl, rfl, hGW, hrefl W⟩
      | i + 32 => exact (none_past (n := 32) (by kernel_rfl) ho).elim
  case hend =>
    intro U W hGW hV
    have hx : U 31 = .bool (!(riseB whN 0 holes)) := hV 31 (of_decide_eq_true (by kernel_rfl))
    refine HQ.out _ _ ⟨?_, ?_, ?_, ?_, trivial⟩ hGW.1 hGW.2
    · rw [putU_defers]; exact hfr.1
    · rw [putU_size]; exact hfr.2.1
    · rw [putU_old 1 (of_decide_eq_true (by kernel_rfl))]; exact hfr.2.2.1
    · rw [putU_get (by rw [hfr.2.1]; kernel_rfl) 31 292 (of_decide_eq_true (by kernel_rfl)) (by kernel_rfl), hx]
end Go.Proofs.Ytaipgdhdfpemcaa
