/-
  THE WALKS OF THE LANE: the references' comparisons of what says the same.
-/
import Derived.Test.YtaipgdhdfpemcaaLaOwn
import Derived.Test.YtaipgdhdfpemcaaLaMid
namespace Go.Proofs.Ytaipgdhdfpemcaa
open Go.RowKit

theorem str_at {w : World} {B n : Nat} {A : Option Addr} {l : List ByteArray} (h : Reads w B 1 A n (strV l)) {k : Nat} (hk : k < n) : ∃ ad x, A = some ad ∧ w.cell? (ad.add k) = some (.string x) ∧ l[k]? = some x := by
  obtain ⟨ad, u, hA, _, hu, hc⟩ := h.at_ hk
  have hl : k < l.length := by have := h.1; simp [strV] at this; omega
  rw [strV_at l k hl] at hu
  injection hu with hu
  exact ⟨ad, l[k], hA, by rw [hc, ← hu], List.getElem?_eq_getElem hl⟩
theorem entV_at (es : List (Int × ByteArray)) (k : Nat) (e : Int × ByteArray) (h : es[k]? = some e) : (entV es)[2 * k]? = some (.int .i64 e.1) ∧ (entV es)[2 * k + 1]? = some (.string e.2) := by
  induction es generalizing k with
  | nil => simp at h
  | cons a l ih =>
    have e1 : entV (a :: l) = [.int .i64 a.1, .string a.2] ++ entV l := rfl
    rw [e1]
    rcases k with _ | k
    · simp only [List.getElem?_cons_zero, Option.some.injEq] at h
      subst h
      exact ⟨rfl, rfl⟩
    · rw [show 2 * (k + 1) = 2 * k + 2 by omega, show 2 * k + 2 + 1 = (2 * k + 1) + 2 by omega]
      exact ih k (by simpa using h)
theorem ent_at {w : World} {B n : Nat} {A : Option Addr} {l : List (Int × ByteArray)} (h : Reads w B 2 A n (entV l)) {k : Nat} (hk : k < n) :
    ∃ ad x y, A = some ad ∧ w.cell? (ad.add (k * 2)) = some (.int .i64 x) ∧ w.cell? { block := (ad.add (k * 2)).block, off := (ad.add (k * 2)).off + 1, spot := none } = some (.string y) ∧ l[k]? = some (x, y) := by
  obtain ⟨ad, e, _, hc⟩ := h.2 (by omega)
  have hl : k < l.length := by have := h.1; rw [entV_len] at this; omega
  obtain ⟨h1, h2⟩ := entV_at l k l[k] (List.getElem?_eq_getElem hl)
  have c1 := hc _ _ h1
  have c2 := hc _ _ h2
  rw [Nat.mul_comm] at c1
  rw [Nat.mul_comm, ← add_of_add, add_pos _ _ (by omega)] at c2
  exact ⟨ad, l[k].1, l[k].2, e, c1, c2, List.getElem?_eq_getElem hl⟩

set_option maxRecDepth 100000 in
set_option maxHeartbeats 2000000 in
theorem sameHoles_any {A A' : Option Addr} {n n' c c' : Nat} {xs : List Int} {S S' : Nat → Prop} (w : World) (h : IntIs w S A n c xs) (h' : IntIs w S' A' n' c' xs) (hn : n ≤ 140737488351232) :
    Calls Try.prog 69 #[.slice A n c, .slice A' n' c'] w fun e w' => e = .returned (.bool true) ∧ Below w.heap.size w w' := by
  obtain rfl : n = n' := by rw [← h.len, ← h'.len]
  have hlen := h.len
  have HR := Lib.hid h
  have HR' := Lib.hid h'
  have HL := Lib.hid hlen
  clear h h' hlen
  go_enter Try.func69, Try.ntmps69
  go_wp2_with fail
  go_loopw [5] (fun i wr => ∃ k : Nat, k ≤ n ∧ i = .int .i64 k ∧ Below w.heap.size w wr) (fun i _ => n - (intOf i).toNat)
  case atStart => exact ⟨0, by omega, rfl, Below.refl _ _⟩
  case round =>
    obtain ⟨k, hk, rfl, hb⟩ := hrel
    have HB := Lib.hid hb
    clear hb
    rcases Nat.lt_or_ge k n with hk1 | hk1
    · obtain ⟨ad, hA, c1⟩ := int_at (HR.out.below HB.out).1.reads hk1
      obtain ⟨ad', hA', c1'⟩ := int_at (HR'.out.below HB.out).1.reads hk1
      obtain ⟨x, hx⟩ : ∃ x, x = xs.getD k 0 := ⟨_, rfl⟩
      rw [← hx] at c1 c1'
      clear hx
      subst hA
      subst hA'
      have b1 : (0 : Int) ≤ (k : Int) := by omega
      have b2 : (k : Int) < (n : Int) := by omega
      go_wp2_with fail
      go_quiet (fail)
      go_wp2
      go_roundw
      case rel => exact ⟨k + 1, by omega, by go_num, below_drewN HB.out _⟩
      case measure => simp [intOf]; omega
    · obtain rfl : n = k := by omega
      go_wp2
      go_ret
      exact ⟨rfl, HB.out⟩

set_option maxRecDepth 100000 in
set_option maxHeartbeats 2000000 in
theorem sameStr_any {A A' : Option Addr} {n n' c c' : Nat} {xs : List ByteArray} {S S' : Nat → Prop} (w : World) (h : StrIs w S A n c xs) (h' : StrIs w S' A' n' c' xs) (hn : n ≤ 140737488351232) :
    Calls Try.prog 112 #[.slice A n c, .slice A' n' c'] w fun e w' => e = .returned (.bool true) ∧ Below w.heap.size w w' := by
  obtain rfl : n = n' := by rw [← h.len, ← h'.len]
  have hlen := h.len
  have HR := Lib.hid h
  have HR' := Lib.hid h'
  have HL := Lib.hid hlen
  clear h h' hlen
  go_enter Try.func112, Try.ntmps112
  go_wp2_with fail
  go_loopw [5] (fun i wr => ∃ k : Nat, k ≤ n ∧ i = .int .i64 k ∧ Below w.heap.size w wr) (fun i _ => n - (intOf i).toNat)
  case atStart => exact ⟨0, by omega, rfl, Below.refl _ _⟩
  case round =>
    obtain ⟨k, hk, rfl, hb⟩ := hrel
    have HB := Lib.hid hb
    clear hb
    rcases Nat.lt_or_ge k n with hk1 | hk1
    · obtain ⟨ad, x, hA, c1, hx⟩ := str_at (HR.out.below HB.out).1.reads hk1
      obtain ⟨ad', x', hA', c1', hx'⟩ := str_at (HR'.out.below HB.out).1.reads hk1
      rw [hx] at hx'
      injection hx' with hx'
      subst hx'
      clear hx
      subst hA
      subst hA'
      have b1 : (0 : Int) ≤ (k : Int) := by omega
      have b2 : (k : Int) < (n : Int) := by omega
      go_wp2_with fail
      go_quiet (fail)
      go_wp2
      go_roundw
      case rel => exact ⟨k + 1, by omega, by go_num, below_drewN HB.out _⟩
      case measure => simp [intOf]; omega
    · obtain rfl : n = k := by omega
      go_wp2
      go_ret
      exact ⟨rfl, HB.out⟩

set_option maxRecDepth 100000 in
set_option maxHeartbeats 2000000 in
theorem sameEnt_any {A A' : Option Addr} {n n' c c' : Nat} {xs : List (Int × ByteArray)} {S S' : Nat → Prop} (w : World) (h : EntIs w S A n c xs) (h' : EntIs w S' A' n' c' xs) (hn : n ≤ 140737488351232) :
    Calls Try.prog 70 #[.slice A n c, .slice A' n' c'] w fun e w' => e = .returned (.bool true) ∧ Below w.heap.size w w' := by
  obtain rfl : n = n' := by rw [← h.len, ← h'.len]
  have hlen := h.len
  have HR := Lib.hid h
  have HR' := Lib.hid h'
  have HL := Lib.hid hlen
  clear h h' hlen
  go_enter Try.func70, Try.ntmps70
  go_wp2_with fail
  go_loopw [5] (fun i wr => ∃ k : Nat, k ≤ n ∧ i = .int .i64 k ∧ Below w.heap.size w wr) (fun i _ => n - (intOf i).toNat)
  case atStart => exact ⟨0, by omega, rfl, Below.refl _ _⟩
  case round =>
    obtain ⟨k, hk, rfl, hb⟩ := hrel
    have HB := Lib.hid hb
    clear hb
    rcases Nat.lt_or_ge k n with hk1 | hk1
    · obtain ⟨ad, x, y, hA, c1, c2, hx⟩ := ent_at (HR.out.below HB.out).1.reads hk1
      obtain ⟨ad', x', y', hA', c1', c2', hx'⟩ := ent_at (HR'.out.below HB.out).1.reads hk1
      rw [hx] at hx'
      injection hx' with hx'
      injection hx' with hx1 hx2
      subst hx1 hx2
      clear hx
      subst hA
      subst hA'
      have b1 : (0 : Int) ≤ (k : Int) := by omega
      have b2 : (k : Int) < (n : Int) := by omega
      go_wp2_with fail
      go_quiet (fail)
      go_wp2
      go_roundw
      case rel => exact ⟨k + 1, by omega, by go_num, below_drewN HB.out _⟩
      case measure => simp [intOf]; omega
    · obtain rfl : n = k := by omega
      go_wp2
      go_ret
      exact ⟨rfl, HB.out⟩

set_option maxRecDepth 100000 in
set_option maxHeartbeats 2000000 in
theorem sameSheet_any {A A' : Option Addr} {n n' c c' : Nat} {xs : List ByteArray} {S S' : Nat → Prop} (z : Int) (w : World) (h : StrIs w S A n c xs) (h' : StrIs w S' A' n' c' xs) (hn : n ≤ 140737488351232) :
    Calls Try.prog 103 #[.agg #[.int .i64 z, .slice A n c], .agg #[.int .i64 z, .slice A' n' c']] w fun e w' => e = .returned (.bool true) ∧ Below w.heap.size w w' := by
  have hb : Below w.heap.size w ((w.alloc (.cells #[.int .i64 z, .slice A n c] 43)).alloc (.cells #[.int .i64 z, .slice A' n' c'] 43)) := ((Below.refl _ _).alloc (Nat.le_refl _) _).alloc (by simp) _
  have hs := sameStr_any _ (h.below hb) (h'.below hb) hn
  have HS := Lib.hid hs
  have HB := Lib.hid hb
  clear h h' hs hb
  go_enter Try.func103, Try.ntmps103
  go_wp2_with fail
  refine HS.out.mono ?_
  rintro e w1 ⟨rfl, hb1⟩
  have HB1 := Lib.hid (HB.out.trans (hb1.mono HB.out.size))
  clear hb1
  go_wp2
  go_ret
  exact ⟨rfl, HB1.out⟩

set_option maxRecDepth 100000 in
set_option maxHeartbeats 2000000 in
theorem sameOp_any {A A' : Option Addr} {n n' c c' : Nat} (o : OpC) {S S' : Nat → Prop} (w : World) (h : StrIs w S A n c o.hs) (h' : StrIs w S' A' n' c' o.hs) (hn : n ≤ 140737488351232) :
    Calls Try.prog 71 #[.agg #[.int .i64 o.n, .int .i64 o.epoch, .int .i64 o.kind, .int .i64 o.site, .int .i64 o.client, .int .i64 o.seq, .string o.name, .int .i64 o.size, .slice A n c], .agg #[.int .i64 o.n, .int .i64 o.epoch, .int .i64 o.kind, .int .i64 o.site, .int .i64 o.client, .int .i64 o.seq, .string o.name, .int .i64 o.size, .slice A' n' c']] w fun e w' => e = .returned (.bool true) ∧ Below w.heap.size w w' := by
  obtain ⟨x1, x2, x3, x4, x5, x6, x7, x8, x9⟩ := o
  simp only at h h' ⊢
  have hb : Below w.heap.size w ((w.alloc (.cells #[.int .i64 x1, .int .i64 x2, .int .i64 x3, .int .i64 x4, .int .i64 x5, .int .i64 x6, .string x7, .int .i64 x8, .slice A n c] 45)).alloc (.cells #[.int .i64 x1, .int .i64 x2, .int .i64 x3, .int .i64 x4, .int .i64 x5, .int .i64 x6, .string x7, .int .i64 x8, .slice A' n' c'] 45)) := ((Below.refl _ _).alloc (Nat.le_refl _) _).alloc (by simp) _
  have hs := sameSheet_any x8 _ (h.below hb) (h'.below hb) hn
  have HS := Lib.hid hs
  have HB := Lib.hid hb
  clear h h' hs hb
  go_enter Try.func71, Try.ntmps71
  go_wp2_with fail
  refine HS.out.mono ?_
  rintro e w1 ⟨rfl, hb1⟩
  have HB1 := Lib.hid (HB.out.trans (hb1.mono HB.out.size))
  clear hb1
  go_wp2
  go_ret
  exact ⟨rfl, HB1.out⟩
end Go.Proofs.Ytaipgdhdfpemcaa
