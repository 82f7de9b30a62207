/-
  THE WALKS OF THE LANE: lists of operations.
-/
import Derived.Test.YtaipgdhdfpemcaaLaSeam
import Derived.Test.YtaipgdhdfpemcaaDraw
import Derived.Lib.SliceRun
import Derived.Deep.OwnRows
namespace Go.Proofs.Ytaipgdhdfpemcaa
open Go.RowKit

/-- an operation, as it lies in memory -/
structure Opd where
  n : Int
  epoch : Int
  kind : Int
  site : Int
  client : Int
  seq : Int
  name : ByteArray
  size : Int
  hA : Option Addr
  hn : Nat
  hc : Nat
def Opd.cells (o : Opd) : List Value := [.int .i64 o.n, .int .i64 o.epoch, .int .i64 o.kind, .int .i64 o.site, .int .i64 o.client, .int .i64 o.seq, .string o.name, .int .i64 o.size, .slice o.hA o.hn o.hc]
def opsV (os : List Opd) : List Value := os.flatMap Opd.cells
theorem opsV_len (os : List Opd) : (opsV os).length = os.length * 9 := by
  induction os with
  | nil => rfl
  | cons o l ih => simp only [opsV, List.flatMap_cons, List.length_append, List.length_cons] at ih ⊢; rw [ih]; simp [Opd.cells]; omega
theorem opsV_at (os : List Opd) (k j : Nat) (o : Opd) (h : os[k]? = some o) (hj : j < 9) : (opsV os)[9 * k + j]? = o.cells[j]? := by
  induction os generalizing k with
  | nil => simp at h
  | cons a l ih =>
    have e : opsV (a :: l) = a.cells ++ opsV l := rfl
    rw [e]
    rcases k with _ | k
    · simp only [List.getElem?_cons_zero, Option.some.injEq] at h
      subst h
      rw [List.getElem?_append_left (by simp [Opd.cells]; omega), Nat.mul_zero, Nat.zero_add]
    · rw [List.getElem?_append_right (by simp [Opd.cells]; omega)]
      have e2 : 9 * (k + 1) + j - a.cells.length = 9 * k + j := by simp [Opd.cells]; omega
      rw [e2]
      exact ih k (by simpa using h)

/-- an operation lies at an address -/
def OpAt (w : World) (b : Addr) (o : Opd) : Prop :=
  w.cell? b = some (.int .i64 o.n) ∧ w.cell? { block := b.block, off := b.off + 1, spot := none } = some (.int .i64 o.epoch) ∧ w.cell? { block := b.block, off := b.off + 2, spot := none } = some (.int .i64 o.kind) ∧ w.cell? { block := b.block, off := b.off + 3, spot := none } = some (.int .i64 o.site) ∧ w.cell? { block := b.block, off := b.off + 4, spot := none } = some (.int .i64 o.client) ∧ w.cell? { block := b.block, off := b.off + 5, spot := none } = some (.int .i64 o.seq) ∧ w.cell? { block := b.block, off := b.off + 6, spot := none } = some (.string o.name) ∧ w.cell? { block := b.block, off := b.off + 7, spot := none } = some (.int .i64 o.size) ∧ w.cell? { block := b.block, off := b.off + 8, spot := none } = some (.slice o.hA o.hn o.hc)
theorem OpAt.below {w w' : World} {b : Addr} {o : Opd} {B : Nat} (h : OpAt w b o) (hb : Below B w w') (hB : b.block < B) : OpAt w' b o := by
  unfold OpAt at h ⊢
  have e := fun (p : Addr) (hp : p.block < B) => hb.cell hp
  rw [e b hB, e _ (show ({ block := b.block, off := b.off + 1, spot := none } : Addr).block < B from hB), e _ (show ({ block := b.block, off := b.off + 2, spot := none } : Addr).block < B from hB), e _ (show ({ block := b.block, off := b.off + 3, spot := none } : Addr).block < B from hB), e _ (show ({ block := b.block, off := b.off + 4, spot := none } : Addr).block < B from hB), e _ (show ({ block := b.block, off := b.off + 5, spot := none } : Addr).block < B from hB), e _ (show ({ block := b.block, off := b.off + 6, spot := none } : Addr).block < B from hB), e _ (show ({ block := b.block, off := b.off + 7, spot := none } : Addr).block < B from hB), e _ (show ({ block := b.block, off := b.off + 8, spot := none } : Addr).block < B from hB)]
  exact h
theorem add_pos (b : Addr) (j : Nat) (hj : 0 < j) : b.add j = { block := b.block, off := b.off + j, spot := none } := by
  unfold Addr.add; rw [if_neg (by omega)]
/-- the cells of one operation of a list -/
theorem op_at {w : World} {B n : Nat} {A : Option Addr} {os : List Opd} (h : Reads w B 9 A n (opsV os)) {k : Nat} (hk : k < n) :
    ∃ ad o, A = some ad ∧ (ad.add (k * 9)).block < B ∧ os[k]? = some o ∧ OpAt w (ad.add (k * 9)) o := by
  obtain ⟨ad, e, hb, hc⟩ := h.2 (by omega)
  have hl : os.length = n := by have := h.1; rw [opsV_len] at this; omega
  obtain ⟨o, ho⟩ : ∃ o, os[k]? = some o := ⟨_, List.getElem?_eq_getElem (by omega)⟩
  refine ⟨ad, o, e, by rw [block_of_add]; exact hb, ho, ?_⟩
  have hj : ∀ j u, j < 9 → o.cells[j]? = some u → w.cell? ((ad.add (k * 9)).add j) = some u := by
    intro j u hj hu
    have h1 := opsV_at os k j o ho hj
    rw [hu] at h1
    rw [add_of_add]
    have e2 : k * 9 + j = 9 * k + j := by omega
    rw [e2]
    exact hc _ u h1
  have h0 := hj 0 _ (by omega) rfl
  have h1 := hj 1 _ (by omega) rfl
  rw [add_pos _ _ (by omega)] at h1
  have h2 := hj 2 _ (by omega) rfl
  rw [add_pos _ _ (by omega)] at h2
  have h3 := hj 3 _ (by omega) rfl
  rw [add_pos _ _ (by omega)] at h3
  have h4 := hj 4 _ (by omega) rfl
  rw [add_pos _ _ (by omega)] at h4
  have h5 := hj 5 _ (by omega) rfl
  rw [add_pos _ _ (by omega)] at h5
  have h6 := hj 6 _ (by omega) rfl
  rw [add_pos _ _ (by omega)] at h6
  have h7 := hj 7 _ (by omega) rfl
  rw [add_pos _ _ (by omega)] at h7
  have h8 := hj 8 _ (by omega) rfl
  rw [add_pos _ _ (by omega)] at h8
  have e0 : (ad.add (k * 9)).add 0 = ad.add (k * 9) := rfl
  rw [e0] at h0
  exact ⟨h0, h1, h2, h3, h4, h5, h6, h7, h8⟩
theorem ops_len {w : World} {B n : Nat} {A : Option Addr} {os : List Opd} (h : Reads w B 9 A n (opsV os)) : os.length = n := by
  have := h.1; rw [opsV_len] at this; omega

theorem spot_any (a1 a2 a3 a4 a5 a6 : Int) (a7 : ByteArray) (a8 : Int) (a9 : Value) (w : World) :
    Calls Try.prog 59 #[.agg #[.int .i64 a1, .int .i64 a2, .int .i64 a3, .int .i64 a4, .int .i64 a5, .int .i64 a6, .string a7, .int .i64 a8, a9]] w fun x w' => x = .returned (.agg #[.int .i64 a1, .int .i64 a2]) ∧ Below w.heap.size w w' := by
  go_enter Try.func59, Try.ntmps59
  go_wp2
  refine bodyPost_ret (v := .agg #[.int .i64 a1, .int .i64 a2]) (by simp [results, Try.results59, go_sem]) rfl ?_
  exact ⟨rfl, ((Below.refl _ _).alloc (Nat.le_refl _) _).alloc (by simp) _⟩

theorem set2 {W : World} {g : Nat} {t : TypeId} {a b : Value} (h : Blk W g t #[a, b]) (x y : Value) : Blk ((W.setCell ⟨g, 0, none⟩ x).setCell ⟨g, 1, none⟩ y) g t #[x, y] := (h.set_ 0 x).set_ 1 y
/-- the place of the last one -/
def lastOf (oN oE : Int) (os : List Opd) : Int × Int := match os.getLast? with
  | none => (oN, oE)
  | some o => (o.n, o.epoch)

set_option maxHeartbeats 1000000 in
theorem last_any (oN oE : Int) (A : Option Addr) (n c : Nat) (os : List Opd) (w : World) (h : Reads w w.heap.size 9 A n (opsV os)) (hn : n ≤ 4294967296) :
    Calls Try.prog 60 #[.agg #[.int .i64 oN, .int .i64 oE], .slice A n c] w fun x w' => x = .returned (.agg #[.int .i64 (lastOf oN oE os).1, .int .i64 (lastOf oN oE os).2]) ∧ Below w.heap.size w w' := by
  have hlen := ops_len h
  rcases Nat.eq_zero_or_pos n with h0 | h0
  · subst h0
    obtain rfl : os = [] := List.eq_nil_of_length_eq_zero hlen
    clear h hlen
    go_enter Try.func60, Try.ntmps60
    go_wp2
    refine bodyPost_ret (v := .agg #[.int .i64 oN, .int .i64 oE]) (by simp [results, Try.results60, go_sem]) rfl ?_
    exact ⟨rfl, ((Below.refl _ _).alloc (Nat.le_refl _) _).alloc (by simp) _⟩
  · have hb0 : Below w.heap.size w ((w.alloc (.cells #[.int .i64 oN, .int .i64 oE] 26)).alloc (.cells #[.int .i64 0, .int .i64 0] 26)) := ((Below.refl _ _).alloc (Nat.le_refl _) _).alloc (by simp) _
    obtain ⟨ad, o, rfl, hab, ho, hop⟩ := op_at h (k := n - 1) (by omega)
    have hop2 := hop.below hb0 hab
    have hlast : lastOf oN oE os = (o.n, o.epoch) := by
      unfold lastOf
      rw [List.getLast?_eq_getElem?, hlen, ho]
    rw [hlast]
    obtain ⟨k0, k1, k2, k3, k4, k5, k6, k7, k8⟩ := hop2
    have HB0 := Lib.hid hb0
    clear h hop hb0 hlast ho hlen
    go_enter Try.func60, Try.ntmps60
    go_wp2_with fail
    refine (spot_any _ _ _ _ _ _ _ _ _ _).mono ?_
    rintro x w1 ⟨rfl, hb1⟩
    have hres : Blk ((w.alloc (.cells #[.int .i64 oN, .int .i64 oE] 26)).alloc (.cells #[.int .i64 0, .int .i64 0] 26)) (w.heap.size + 1) 26 #[.int .i64 0, .int .i64 0] := by
      have := Blk.new (w.alloc (.cells #[.int .i64 oN, .int .i64 oE] 26)) 26 #[.int .i64 0, .int .i64 0]
      simpa using this
    have hr1 := hres.below hb1 hres.lt
    have f0 := hr1.frozen 0
    have f1 := hr1.frozen 1
    have d0 := hr1.cell 0
    have d1 := hr1.cell 1
    simp at d0 d1
    have HR1 := Lib.hid hr1
    have HB1 := Lib.hid (HB0.out.trans (hb1.mono HB0.out.size))
    clear hb1 hres hr1 k0 k1 k2 k3 k4 k5 k6 k7 k8
    go_wp2
    have e0 := (set2 HR1.out (.int .i64 o.n) (.int .i64 o.epoch)).cell 0
    have e1 := (set2 HR1.out (.int .i64 o.n) (.int .i64 o.epoch)).cell 1
    refine bodyPost_ret (v := .agg #[.int .i64 o.n, .int .i64 o.epoch]) (by simp [results, Try.results60, e0, e1, go_sem]) rfl ?_
    exact ⟨rfl, (HB1.out.setCell (p := ⟨_, 0, none⟩) (by simp) _).setCell (p := ⟨_, 1, none⟩) (by simp) _⟩

theorem Try.infoOp : (Try.prog.info? 45).map (fun i => (i.zero, i.size, i.bytes)) = some (some (.agg #[.int .i64 0, .int .i64 0, .int .i64 0, .int .i64 0, .int .i64 0, .int .i64 0, .string ⟨#[]⟩, .int .i64 0, .slice none 0 0]), 9, 96) := by kernel_rfl
theorem opsV_one (os : List Opd) : ∀ u ∈ opsV os, u.oneCell' = true := by
  intro u hu
  simp only [opsV, List.mem_flatMap, Opd.cells] at hu
  obtain ⟨o, _, ho⟩ := hu
  simp only [List.mem_cons, List.not_mem_nil, or_false] at ho
  rcases ho with rfl | rfl | rfl | rfl | rfl | rfl | rfl | rfl | rfl <;> rfl
theorem own_blk {w : World} {base : Nat} {e : TypeId} {size : Nat} {v : Value} {n : Nat} {xs : List Value} (h : w.ownsRow base e size v n xs) {o b : Nat} (hat : v.ownBlock = some o ∨ v.ownBlock = some b) :
    ∃ g c cur, v = .slice (some ⟨g, 0, none⟩) n c ∧ n ≤ c ∧ c ≤ maxLen ∧ base ≤ g ∧ Blk w g e cur ∧ Reads w w.heap.size size (some ⟨g, 0, none⟩) n xs := by
  have h0 := h
  rcases h.2 with ⟨rfl, rfl⟩ | ⟨g, cap, cur, rfl, hg, hh, hn, hm, _⟩
  · rcases hat with hat | hat <;> simp [Value.ownBlock] at hat
  · exact ⟨g, cap, cur, rfl, hn, hm, hg, hh, Reads.of_own (c := cap) h0⟩

set_option maxHeartbeats 1000000 in
/-- operations in new memory -/
theorem cloneOps_some (ad : Addr) (n c : Nat) (os : List Opd) (w : World) (h : Reads w w.heap.size 9 (some ad) n (opsV os)) (hn : n ≤ 4294967296) :
    Calls Try.prog 98 #[.slice (some ad) n c] w fun x w' => ∃ g c' cur, x = .returned (.slice (some ⟨g, 0, none⟩) n c') ∧ n ≤ c' ∧ c' ≤ maxLen ∧ w.heap.size ≤ g ∧ Blk w' g 45 cur ∧ Reads w' w'.heap.size 9 (some ⟨g, 0, none⟩) n (opsV os) ∧ Below w.heap.size w w' := by
  have HR := Lib.hid h
  clear h
  obtain ⟨i0, hi0, hz0, hz1, hz2⟩ := info_parts Try.infoOp
  have HI := Lib.hid hi0
  have HZ0 := Lib.hid hz0
  have HZ1 := Lib.hid hz1
  have HZ2 := Lib.hid hz2
  clear hi0 hz0 hz1 hz2
  have q : ∀ (w : World), (binOp .eql 28 (.slice (some ad) n c) (.slice none 0 0)).run Try.prog w = .ok (.bool false) w := fun w => Lib.run_eql_slice_nil w _ _ (some ad) n c 0 0 Try.underlying28
  go_enter Try.func98, Try.ntmps98
  go_wp2_with (at_builtin; refine wpList_append_any _ rfl (.tmp 5) (.tmp 6) _ rfl w.heap.size 45 i0 _ 9 96 Try.underlying28 HI.out HZ0.out HZ1.out HZ2.out rfl (by omega) (.slice (some ⟨w.heap.size, 0, none⟩) 0 0) 0 [] rfl (own_empty w _ 9) w.heap.size (some ad) n c (opsV os) rfl (HR.out.alloc (Nat.le_refl _) _) (opsV_one os) ?c1 ?c2 ?c3 ?_)
  case c1 => unfold maxLen; omega
  case c2 => omega
  case c3 => simp
  intro v1 w2 hown hg hat
  try simp only [Nat.zero_add, List.nil_append] at hown
  have hb2 : Below w.heap.size w w2 := ((Below.refl _ _).alloc (Nat.le_refl _) _).grown hg (by simp) (by intro k hk; simp [Value.ownBlock] at hk; omega)
  obtain ⟨g1, c1, cur, rfl, hc1, hcm, hg1, hbk, hrd⟩ := own_blk hown hat
  have HB := Lib.hid hb2
  have HD := Lib.hid hrd
  have HK := Lib.hid hbk
  clear hown hg hat hrd hb2 hbk
  go_wp2
  go_ret
  exact ⟨_, _, cur, rfl, hc1, hcm, hg1, HK.out, HD.out, HB.out⟩

theorem cloneStr_nil (w : World) : Calls Try.prog 99 #[.slice none 0 0] w fun x w' => x = .returned (.slice none 0 0) ∧ w' = w := by
  go_enter Try.func99, Try.ntmps99
  have q : ∀ (w : World), (binOp .eql 24 (.slice none 0 0) (.slice none 0 0)).run Try.prog w = .ok (.bool true) w := fun w => Lib.run_eql_slice_nil w _ _ none 0 0 0 0 Try.underlying24
  go_wp2
  go_ret
  exact ⟨rfl, rfl⟩

set_option maxHeartbeats 1000000 in
/-- operations without hashes in new memory -/
theorem copied_bare (ad : Addr) (n c : Nat) (os : List Opd) (w : World) (h : Reads w w.heap.size 9 (some ad) n (opsV os)) (hn : n ≤ 4294967296) (hh : ∀ o ∈ os, o.hA = none ∧ o.hn = 0 ∧ o.hc = 0) :
    Calls Try.prog 62 #[.slice (some ad) n c] w fun x w' => ∃ g c', x = .returned (.slice (some ⟨g, 0, none⟩) n c') ∧ n ≤ c' ∧ w.heap.size ≤ g ∧ g < w'.heap.size ∧ Below w.heap.size w w' := by
  have HH := Lib.hid hh
  have HR := Lib.hid h
  clear h hh
  go_enter Try.func62, Try.ntmps62
  go_wp2_with fail
  refine (cloneOps_some ad n c os w HR.out hn).mono ?_
  rintro x w1 ⟨g, c', cur, rfl, hc1, hcm, hg, hbk, hrd, hb⟩
  have hlen := ops_len hrd
  have hcur : ∀ k, k < n → cur[k * 9 + 7 + 1]? = some (.slice none 0 0) := by
    intro k hk
    obtain ⟨ad2, o, e, _, ho, hop⟩ := op_at hrd hk
    injection e with e
    subst e
    obtain ⟨_, _, _, _, _, _, _, _, k8⟩ := hop
    obtain ⟨e1, e2, e3⟩ := HH.out o (List.mem_of_getElem? ho)
    rw [e1, e2, e3] at k8
    have e : ({ block := ((⟨g, 0, none⟩ : Addr).add (k * 9)).block, off := ((⟨g, 0, none⟩ : Addr).add (k * 9)).off + 8, spot := none } : Addr) = ⟨g, k * 9 + 7 + 1, none⟩ := by
      unfold Addr.add
      by_cases hz : k * 9 = 0
      · rw [if_pos hz, hz]
      · rw [if_neg hz]; simp
    rw [e, hbk.cell] at k8
    exact k8
  have HB := Lib.hid hb
  clear hrd hb
  unfold maxLen at hcm
  go_wp2_with fail
  go_loopw [9] (fun i wr => ∃ (k : Nat) (cu : Array Value), k ≤ n ∧ i = .int .i64 k ∧ Blk wr g 45 cu ∧ (∀ k, k < n → cu[k * 9 + 7 + 1]? = some (.slice none 0 0)) ∧ Below w.heap.size w wr) (fun i _ => n - (intOf i).toNat)
  case atStart => exact ⟨0, cur, by omega, rfl, hbk, hcur, HB.out⟩
  case round =>
    obtain ⟨k, cu, hk, rfl, hbk, hcu, hb⟩ := hrel
    rcases Nat.lt_or_ge k n with hk1 | hk1
    · have d8 := hbk.cell (k * 9 + 7 + 1)
      rw [hcu k hk1] at d8
      have f8 := hbk.frozen (k * 9 + 7 + 1)
      have HCU := Lib.hid hcu
      have HBK := Lib.hid hbk
      have HB2 := Lib.hid hb
      clear hcu hbk hb
      go_wp2_with fail
      refine (cloneStr_nil wr).mono ?_
      rintro x w3 ⟨rfl, rfl⟩
      go_wp2
      go_roundw
      case rel =>
        refine ⟨k + 1, cu.setIfInBounds (k * 9 + 7 + 1) (.slice none 0 0), by omega, by go_num, HBK.out.set_ _ _, ?_, HB2.out.setCell (p := ⟨g, _, none⟩) hg _⟩
        intro j hj
        have h1 := HCU.out j hj
        by_cases hjk : j = k
        · subst hjk
          have h2 := (Array.getElem?_eq_some_iff.1 h1).1
          simp [h2]
        · rw [Array.getElem?_setIfInBounds_ne (by omega)]
          exact h1
      case measure => simp [intOf]; omega
    · obtain rfl : n = k := by omega
      have hlt := hbk.lt
      have HB2 := Lib.hid hb
      clear hcu hbk hb
      go_wp2
      go_ret
      exact ⟨g, c', rfl, hc1, hg, hlt, HB2.out⟩

set_option maxHeartbeats 1000000 in
/-- the epochs of operations -/
theorem epochs_any (A : Option Addr) (n c : Nat) (os : List Opd) (w : World) (h : Reads w w.heap.size 9 A n (opsV os)) (hn : n ≤ 4294967296) :
    Calls Try.prog 56 #[.slice A n c] w fun x w' => ∃ g, x = .returned (.slice (some ⟨g, 0, none⟩) n n) ∧ Reads w' w'.heap.size 1 (some ⟨g, 0, none⟩) n (intV .i64 (os.map (·.epoch))) ∧ Below w.heap.size w w' := by
  have hlen := ops_len h
  have HR := Lib.hid h
  have HL := Lib.hid hlen
  clear h hlen
  have hmk := run_make_row' (P := Try.prog) 27 3 (.int .i64 0) 8 Try.underlying27 Try.infoInt rfl .i64 .i64 n (w := w) (by omega) (by omega)
  go_enter Try.func56, Try.ntmps56
  go_wp2_with fail
  have hbk := Blk.new w 3 (madeCells #[.int .i64 0] n)
  have hb0 : Below w.heap.size w (w.alloc (.cells (madeCells #[.int .i64 0] n) 3)) := (Below.refl _ _).alloc (Nat.le_refl _) _
  obtain ⟨W, hW⟩ : ∃ W, W = w.alloc (.cells (madeCells #[.int .i64 0] n) 3) := ⟨_, rfl⟩
  rw [← hW]
  rw [← hW] at hb0 hbk
  have hsz : (madeCells #[.int .i64 0] n).size = n := by simp [madeCells]
  obtain ⟨c0, hc0⟩ : ∃ c0, c0 = madeCells #[.int .i64 0] n := ⟨_, rfl⟩
  rw [← hc0] at hbk hsz
  have HB0 := Lib.hid hb0
  have HBK := Lib.hid hbk
  clear hW hc0 hmk hb0 hbk
  go_loopw [11] (fun i wr => ∃ (k : Nat) (cu : Array Value), k ≤ n ∧ i = .int .i64 k ∧ cu.size = n ∧ Blk wr w.heap.size 3 cu ∧ (∀ j, j < k → cu[j]? = (intV .i64 (os.map (·.epoch)))[j]?) ∧ Below w.heap.size w wr) (fun i _ => n - (intOf i).toNat)
  case atStart => exact ⟨0, c0, by omega, rfl, hsz, HBK.out, fun j hj => absurd hj (by omega), HB0.out⟩
  case round =>
    obtain ⟨k, cu, hk, rfl, hcs, hbk, hcu, hb⟩ := hrel
    have HCU := Lib.hid hcu
    have HBK := Lib.hid hbk
    have HB := Lib.hid hb
    have HCS := Lib.hid hcs
    clear hcu hbk hb hcs hsz
    rcases Nat.lt_or_ge k n with hk1 | hk1
    · obtain ⟨ad, o, rfl, hab, ho, hop⟩ := op_at (HR.out.below HB.out) hk1
      obtain ⟨k0, k1, k2, k3, k4, k5, k6, k7, k8⟩ := hop
      have d := (HBK.out.alloc (.cells #[.int .i64 o.n, .int .i64 o.epoch, .int .i64 o.kind, .int .i64 o.site, .int .i64 o.client, .int .i64 o.seq, .string o.name, .int .i64 o.size, .slice o.hA o.hn o.hc] 45))
      have d1 := d.cell k
      have f1 := d.frozen k
      rw [Array.getElem?_eq_getElem (by rw [HCS.out]; exact hk1)] at d1
      have D := Lib.hid d
      have HO := Lib.hid ho
      have hlt := HBK.out.lt
      clear d ho
      go_wp2_with fail
      go_roundw
      case rel =>
        refine ⟨k + 1, cu.setIfInBounds k (.int .i64 o.epoch), by omega, by go_num, by rw [Array.size_setIfInBounds]; exact HCS.out, (HBK.out.set_ _ _).alloc _, ?_, (HB.out.setCell (p := ⟨w.heap.size, _, none⟩) (Nat.le_refl _) _).alloc (by have := HB.out.size; simp; omega) _⟩
        intro j hj
        by_cases hjk : j = k
        · subst hjk
          have h2 : j < cu.size := by rw [HCS.out]; exact hk1
          simp [h2, intV, HO.out]
        · rw [Array.getElem?_setIfInBounds_ne (by omega)]
          exact HCU.out j (by omega)
      case measure => simp [intOf]; omega
    · obtain rfl : n = k := by omega
      go_wp2
      go_ret
      refine ⟨w.heap.size, rfl, ⟨by simp [intV, HL.out], fun _ => ⟨_, rfl, HBK.out.lt, fun j u hu => ?_⟩⟩, HB.out⟩
      have hj : j < n := by have := (List.getElem?_eq_some_iff.1 hu).1; simp [intV] at this; rw [HL.out] at this; exact this
      have e : (⟨w.heap.size, 0, none⟩ : Addr).add j = ⟨w.heap.size, j, none⟩ := by simp [Addr.add]; try exact fun h => h.symm
      rw [e, HBK.out.cell j, HCU.out j hj]
      exact hu
end Go.Proofs.Ytaipgdhdfpemcaa
