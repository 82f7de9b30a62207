/-
  THE WALKS OF FRAMES: the reader.
-/
import Derived.Test.YtehhhclpeefnmaaFrOpen
namespace Go.Proofs.Ytehhhclpeefnmaa
open Go.RowKit

/-- what a reader that was good holds, and the number, once it is read -/
def ReadPost (bn r : Nat) (s : ByteArray) (w w' : World) : Prop :=
  (match Fr.dec s.data.toList 0 0 with
  | none => Blk w' r 69 #[.string s, .bool true] ∧ Blk w' bn 3 #[.int .i64 0]
  | some (z, m) => Blk w' r 69 #[.string (s.extract m s.size), .bool false] ∧ Blk w' bn 3 #[.int .i64 (Fr.unz z)]) ∧ ∀ B, B ≤ r → B ≤ bn → Below B w w'

set_option maxHeartbeats 1000000 in
theorem some_any (br bn r : Nat) (s : ByteArray) (w : World) (hr : Blk w r 69 #[.string s, .bool false]) (hbr : Blk w br 56 #[.pointer (some ⟨r, 0, none⟩)]) (hbn : Blk w bn 3 #[.int .i64 0]) (hs : s.size ≤ 1099511627776) :
    Calls Try.prog 34 #[.pointer (some ⟨r, 0, none⟩), .func (.func 35) #[] #[.pointer (some ⟨br, 0, none⟩), .pointer (some ⟨bn, 0, none⟩)]] w fun e w' => e = .returned (.tuple #[]) ∧ ReadPost bn r s w w' := by
  have c3 := hr.cell 1
  simp at c3
  have H := Lib.hid (num1_any br bn r s w hr hbr hbn hs)
  have HR := Lib.hid hr
  have HBN := Lib.hid hbn
  clear hr hbr hbn
  go_enter Try.func34, Try.ntmps34
  go_wp2_with fail
  refine (H.out).mono ?_
  rintro e w' hpost
  unfold NumPost at hpost
  cases hd : Fr.dec s.data.toList 0 0 with
  | none =>
    rw [hd] at hpost
    obtain ⟨rfl, rfl⟩ := hpost
    have f3 := HR.out.frozen 1
    go_wp2_with fail
    go_end0
    unfold ReadPost
    rw [hd]
    exact ⟨rfl, ⟨HR.out.set_ 1 _, HBN.out.far (p := ⟨r, 1, none⟩) (HBN.out.ne_ HR.out (by decide)) _⟩, fun B h1 _ => (Below.refl B _).setCell (p := ⟨r, 1, none⟩) h1 _⟩
  | some zm =>
    obtain ⟨z, m⟩ := zm
    rw [hd] at hpost
    obtain ⟨rfl, h1, h2, h3⟩ := hpost
    have H1 := Lib.hid h1
    have H2 := Lib.hid h2
    have H3 := Lib.hid h3
    clear h1 h2 h3
    go_wp2_with fail
    go_end0
    unfold ReadPost
    rw [hd]
    exact ⟨rfl, ⟨H1.out, H2.out⟩, H3.out⟩

/-- a number that stands first is read: what it is, and what is left -/
def Numbered (r : Nat) (s : ByteArray) (e : Ending) (w' : World) : Prop :=
  match Fr.dec s.data.toList 0 0 with
  | none => e = .returned (.int .i64 0) ∧ Blk w' r 69 #[.string s, .bool true]
  | some (z, m) => e = .returned (.int .i64 (Fr.unz z)) ∧ Blk w' r 69 #[.string (s.extract m s.size), .bool false]

set_option maxHeartbeats 1000000 in
theorem num_any (B r : Nat) (s : ByteArray) (w : World) (hr : Blk w r 69 #[.string s, .bool false]) (hB : B ≤ r) (hs : s.size ≤ 1099511627776) :
    Calls Try.prog 25 #[.pointer (some ⟨r, 0, none⟩)] w fun e w' => Numbered r s e w' ∧ Below B w w' := by
  have hlt := hr.lt
  have HR := Lib.hid hr
  clear hr
  go_enter Try.func25, Try.ntmps25
  go_wp2_with fail
  have hbr : Blk ((w.alloc (.cells #[.pointer (some ⟨r, 0, none⟩)] 56)).alloc (.cells #[.int .i64 0] 3)) w.heap.size 56 #[.pointer (some ⟨r, 0, none⟩)] := (Blk.new w _ _).alloc _
  have hbn : Blk ((w.alloc (.cells #[.pointer (some ⟨r, 0, none⟩)] 56)).alloc (.cells #[.int .i64 0] 3)) (w.heap.size + 1) 3 #[.int .i64 0] := by
    have := Blk.new (w.alloc (.cells #[.pointer (some ⟨r, 0, none⟩)] 56)) 3 #[.int .i64 0]
    simpa using this
  refine (some_any w.heap.size (w.heap.size + 1) r s _ ((HR.out.alloc _).alloc _) hbr hbn hs).mono ?_
  rintro e w1 ⟨rfl, hp, hB1⟩
  have hbw : Below B w w1 := (((Below.refl B w).alloc (by omega) _).alloc (by simp; omega) _).trans (hB1 B hB (by omega))
  have HBW := Lib.hid hbw
  clear hbr hbn hB1 hbw
  cases hd : Fr.dec s.data.toList 0 0 with
  | none =>
    rw [hd] at hp
    have c4 := hp.2.cell 0
    have f4 := hp.2.frozen 0
    simp at c4
    have HP := Lib.hid hp
    clear hp
    go_wp2_with fail
    have hc5 : (w1.setCell ⟨w.heap.size + 1, 0, none⟩ (.int .i64 0)).cell? ⟨w.heap.size + 1, 0, none⟩ = some (.int .i64 0) := by
      rw [(HP.out.2.set_ 0 _).cell 0]; rfl
    refine bodyPost_ret (v := .int .i64 0) (by simp [results, Try.results25, hc5, go_sem]) rfl ?_
    refine ⟨?_, HBW.out.setCell (p := ⟨w.heap.size + 1, 0, none⟩) (by simp; omega) _⟩
    unfold Numbered
    rw [hd]
    exact ⟨rfl, HP.out.1.far (p := ⟨w.heap.size + 1, 0, none⟩) (by simp; omega) _⟩
  | some zm =>
    obtain ⟨z, m⟩ := zm
    rw [hd] at hp
    have c4 := hp.2.cell 0
    have f4 := hp.2.frozen 0
    simp at c4
    have HP := Lib.hid hp
    clear hp
    go_wp2_with fail
    have hc5 : (w1.setCell ⟨w.heap.size + 1, 0, none⟩ (.int .i64 (Fr.unz z))).cell? ⟨w.heap.size + 1, 0, none⟩ = some (.int .i64 (Fr.unz z)) := by
      rw [(HP.out.2.set_ 0 _).cell 0]; rfl
    refine bodyPost_ret (v := .int .i64 (Fr.unz z)) (by simp [results, Try.results25, hc5, go_sem]) rfl ?_
    refine ⟨?_, HBW.out.setCell (p := ⟨w.heap.size + 1, 0, none⟩) (by simp; omega) _⟩
    unfold Numbered
    rw [hd]
    exact ⟨rfl, HP.out.1.far (p := ⟨w.heap.size + 1, 0, none⟩) (by simp; omega) _⟩


theorem read_any (s : ByteArray) (w : World) :
    Calls Try.prog 24 #[.string s] w fun e w' => e = .returned (.pointer (some ⟨w.heap.size, 0, none⟩)) ∧ w' = w.alloc (.cells #[.string s, .bool false] 69) := by
  go_enter Try.func24, Try.ntmps24
  go_wp2
  go_ret
  exact ⟨rfl, rfl⟩
theorem left_any (r : Nat) (s : ByteArray) (bad : Bool) (w : World) (hr : Blk w r 69 #[.string s, .bool bad]) :
    Calls Try.prog 26 #[.pointer (some ⟨r, 0, none⟩)] w fun e w' => e = .returned (.int .i64 s.size) ∧ w' = w := by
  have c0 := hr.cell 0
  simp at c0
  clear hr
  go_enter Try.func26, Try.ntmps26
  go_wp2
  go_ret
  exact ⟨rfl, rfl⟩
theorem good_any (r : Nat) (s : ByteArray) (bad : Bool) (w : World) (hr : Blk w r 69 #[.string s, .bool bad]) :
    Calls Try.prog 27 #[.pointer (some ⟨r, 0, none⟩)] w fun e w' => e = .returned (.bool (!bad)) ∧ w' = w := by
  have c1 := hr.cell 1
  simp at c1
  clear hr
  go_enter Try.func27, Try.ntmps27
  go_wp2
  go_ret
  exact ⟨rfl, rfl⟩

/-- what the operations that hold a frame's sum against its payload yield -/
def OpenV (s : ByteArray) (b0 b1 b2 b3 : UInt8) (m : Nat) (p : ByteArray) (x : BitVec 32) : Nat → Value → World → Prop
  | 0, v, _ => v = .string s
  | 1, v, _ => v = .int .i64 m
  | 2, v, _ => v = .int .u8 (b0.toNat : Int)
  | 3, v, _ => v = .int .u32 (b0.toNat : Int)
  | 4, v, _ => v = .string s
  | 5, v, _ => v = .int .i64 m
  | 6, v, _ => v = .int .i64 ((m : Int) + 1)
  | 7, v, _ => v = .int .u8 (b1.toNat : Int)
  | 8, v, _ => v = .int .u32 (b1.toNat : Int)
  | 9, v, _ => v = .int .u32 ((b1.toNat : Int) * 256)
  | 10, v, _ => v = .int .u32 ((b0.toNat : Int) + b1.toNat * 256)
  | 11, v, _ => v = .string s
  | 12, v, _ => v = .int .i64 m
  | 13, v, _ => v = .int .i64 ((m : Int) + 2)
  | 14, v, _ => v = .int .u8 (b2.toNat : Int)
  | 15, v, _ => v = .int .u32 (b2.toNat : Int)
  | 16, v, _ => v = .int .u32 ((b2.toNat : Int) * 65536)
  | 17, v, _ => v = .int .u32 ((b0.toNat : Int) + b1.toNat * 256 + b2.toNat * 65536)
  | 18, v, _ => v = .string s
  | 19, v, _ => v = .int .i64 m
  | 20, v, _ => v = .int .i64 ((m : Int) + 3)
  | 21, v, _ => v = .int .u8 (b3.toNat : Int)
  | 22, v, _ => v = .int .u32 (b3.toNat : Int)
  | 23, v, _ => v = .int .u32 ((b3.toNat : Int) * 16777216)
  | 24, v, _ => v = .int .u32 ((b0.toNat : Int) + b1.toNat * 256 + b2.toNat * 65536 + b3.toNat * 16777216)
  | 25, v, _ => v = .string p
  | 26, v, W => ∃ g, v = .slice (some ⟨g, 0, none⟩) 1 1 ∧ Blk W g 9 #[.string p]
  | 27, v, _ => v = .int .u32 x.toNat
  | 28, v, _ => v = .bool (((b0.toNat : Int) + b1.toNat * 256 + b2.toNat * 65536 + b3.toNat * 16777216) == (x.toNat : Int))
  | _, _, _ => False
theorem u32w (a : Int) (h0 : 0 ≤ a) (h1 : a < 4294967296) : IntKind.u32.wrap a = a := by
  simp [IntKind.wrap, IntKind.signed, IntKind.bits]
  omega
theorem or32 (a c i : Nat) (ha : a < 2 ^ i) (h : a + c * 2 ^ i < 4294967296) : bits .or .u32 (a : Int) ((c * 2 ^ i : Nat) : Int) = ((a + c * 2 ^ i : Nat) : Int) := by
  rw [u32_or_nat _ _ (by omega) (by omega)]
  congr 1
  rw [Nat.or_comm, Nat.mul_comm, ← Nat.two_pow_add_eq_or_of_lt ha]
  omega
theorem or32a (b0 b1 : UInt8) : bits .or .u32 (b0.toNat : Int) ((b1.toNat : Int) * 256) = (b0.toNat : Int) + b1.toNat * 256 := by
  have h0 := b0.toNat_lt
  have h1 := b1.toNat_lt
  have h := or32 b0.toNat b1.toNat 8 (by omega) (by omega)
  have e1 : (b1.toNat : Int) * 256 = ((b1.toNat * 2 ^ 8 : Nat) : Int) := by omega
  rw [e1, h]
  omega
theorem or32b (b0 b1 b2 : UInt8) : bits .or .u32 ((b0.toNat : Int) + b1.toNat * 256) ((b2.toNat : Int) * 65536) = (b0.toNat : Int) + b1.toNat * 256 + b2.toNat * 65536 := by
  have h0 := b0.toNat_lt
  have h1 := b1.toNat_lt
  have h2 := b2.toNat_lt
  have h := or32 (b0.toNat + b1.toNat * 256) b2.toNat 16 (by omega) (by omega)
  have e1 : (b2.toNat : Int) * 65536 = ((b2.toNat * 2 ^ 16 : Nat) : Int) := by omega
  have e2 : (b0.toNat : Int) + b1.toNat * 256 = ((b0.toNat + b1.toNat * 256 : Nat) : Int) := by omega
  rw [e1, e2, h]
  omega
theorem or32c (b0 b1 b2 b3 : UInt8) : bits .or .u32 ((b0.toNat : Int) + b1.toNat * 256 + b2.toNat * 65536) ((b3.toNat : Int) * 16777216) = (b0.toNat : Int) + b1.toNat * 256 + b2.toNat * 65536 + b3.toNat * 16777216 := by
  have h0 := b0.toNat_lt
  have h1 := b1.toNat_lt
  have h2 := b2.toNat_lt
  have h3 := b3.toNat_lt
  have h := or32 (b0.toNat + b1.toNat * 256 + b2.toNat * 65536) b3.toNat 24 (by omega) (by omega)
  have e1 : (b3.toNat : Int) * 16777216 = ((b3.toNat * 2 ^ 24 : Nat) : Int) := by omega
  have e2 : (b0.toNat : Int) + b1.toNat * 256 + b2.toNat * 65536 = ((b0.toNat + b1.toNat * 256 + b2.toNat * 65536 : Nat) : Int) := by omega
  rw [e1, e2, h]
  omega
/-- four bytes are a sum's, or they aren't -/
theorem four_le4 (b0 b1 b2 b3 : UInt8) (x : BitVec 32) : ([b0, b1, b2, b3] = Fr.le4 x) ↔ (b0.toNat : Int) + b1.toNat * 256 + b2.toNat * 65536 + b3.toNat * 16777216 = x.toNat := by
  have h0 := b0.toNat_lt
  have h1 := b1.toNat_lt
  have h2 := b2.toNat_lt
  have h3 := b3.toNat_lt
  have hx := x.isLt
  have t : ∀ (b : UInt8) (m : Nat), m < 256 → (b = UInt8.ofNat m ↔ b.toNat = m) := fun b m hm => by
    constructor
    · rintro rfl; simp; omega
    · intro h
      rw [← h]; simp
  simp only [Fr.le4, List.cons.injEq, and_true]
  rw [t _ _ (by omega), t _ _ (by omega), t _ _ (by omega), t _ _ (by omega)]
  omega

/-- what frame.Open tells -/
def Opened (s : ByteArray) (e : Ending) : Prop :=
  match Fr.openF s.data.toList with
  | none => e = .returned (.tuple #[.string ⟨#[]⟩, .string ⟨#[]⟩, .int .i64 3])
  | some (p, t) => e = .returned (.tuple #[.string ⟨p.toArray⟩, .string ⟨t.toArray⟩, .int .i64 0])

theorem opened_none {s : ByteArray} (h : Fr.openF s.data.toList = none) : Opened s (.returned (.tuple #[.string ⟨#[]⟩, .string ⟨#[]⟩, .int .i64 3])) := by
  unfold Opened; rw [h]
theorem opened_some {s : ByteArray} {p t : List UInt8} {x y : ByteArray} (h : Fr.openF s.data.toList = some (p, t)) (hx : x = ⟨p.toArray⟩) (hy : y = ⟨t.toArray⟩) : Opened s (.returned (.tuple #[.string x, .string y, .int .i64 0])) := by
  subst hx hy
  unfold Opened; rw [h]

set_option maxHeartbeats 1000000 in
theorem open_any (s : ByteArray) (w : World) (hs : s.size ≤ 1099511627776) :
    Calls Try.prog 13 #[.string s] w fun e w' => Opened s e ∧ Below w.heap.size w w' := by
  go_enter Try.func13, Try.ntmps13
  go_wp2_with fail
  refine (read_any s w).mono ?_
  rintro e w1 ⟨rfl, rfl⟩
  have hbk := Blk.new w 69 #[.string s, .bool false]
  have hb1 : Below w.heap.size w (w.alloc (.cells #[.string s, .bool false] 69)) := (Below.refl _ _).alloc (Nat.le_refl _) _
  have HBK := Lib.hid hbk
  have HB1 := Lib.hid hb1
  clear hbk hb1
  go_wp2_with fail
  refine (num_any w.heap.size w.heap.size s _ HBK.out (Nat.le_refl _) hs).mono ?_
  rintro e w2 ⟨hnum, hb2⟩
  have HB2 := Lib.hid (HB1.out.trans hb2)
  clear hb2
  cases hd : Fr.dec s.data.toList 0 0 with
  | none =>
    have hop : Fr.openF s.data.toList = none := by unfold Fr.openF; rw [hd]
    unfold Numbered at hnum
    rw [hd] at hnum
    obtain ⟨rfl, hbk⟩ := hnum
    have HB := Lib.hid hbk
    have HOP := Lib.hid hop
    clear hbk hd hop
    go_wp2_with fail
    refine (left_any _ _ _ _ HB.out).mono ?_
    rintro e w3 ⟨rfl, rfl⟩
    go_wp2_with fail
    refine (good_any _ _ _ _ HB.out).mono ?_
    rintro e w3 ⟨rfl, rfl⟩
    go_wp2_with fail
    go_ret3
    exact ⟨opened_none HOP.out, HB2.out⟩
  | some zm =>
    obtain ⟨z, m⟩ := zm
    unfold Numbered at hnum
    rw [hd] at hnum
    obtain ⟨rfl, hbk⟩ := hnum
    obtain ⟨q, hq1, hq2, ⟨t, hq3⟩, _⟩ := Fr.dec_spec _ _ _ _ _ hd
    have hms : m ≤ s.size := by
      have := congrArg List.length hq3
      simp at this
      omega
    have hrest : (s.extract m s.size).size = s.size - m := by rw [ByteArray.size_extract]; omega
    have HB := Lib.hid hbk
    have HD := Lib.hid hd
    clear hbk hd hq1 hq2 hq3
    by_cases hodd : z % 2 = 1
    · have hop : Fr.openF s.data.toList = none := by unfold Fr.openF; rw [HD.out]; simp only; rw [if_pos (Or.inl hodd)]
      have hun : Fr.unz z < 0 := by unfold Fr.unz; rw [if_pos hodd]; omega
      have HOP := Lib.hid hop
      clear hop
      go_wp2_with fail
      refine (left_any _ _ _ _ HB.out).mono ?_
      rintro e w3 ⟨rfl, rfl⟩
      rw [hrest]
      go_wp2_with fail
      refine (good_any _ _ _ _ HB.out).mono ?_
      rintro e w3 ⟨rfl, rfl⟩
      go_wp2_with fail
      go_ret3
      exact ⟨opened_none HOP.out, HB2.out⟩
    · obtain ⟨n, hn⟩ : ∃ n, n = z / 2 := ⟨_, rfl⟩
      have hun : Fr.unz z = (n : Int) := by unfold Fr.unz; rw [if_neg hodd, hn]
      rw [hun]
      have HN := Lib.hid hn
      clear hn hun
      by_cases hbig : 1048576 < n ∨ s.size < m + 4 + n
      · have hop : Fr.openF s.data.toList = none := by unfold Fr.openF; rw [HD.out]; simp only; rw [if_pos (Or.inr (by rw [← HN.out]; simpa using hbig))]
        have HOP := Lib.hid hop
        clear hop
        go_wp2_with fail
        refine (left_any _ _ _ _ HB.out).mono ?_
        rintro e w3 ⟨rfl, rfl⟩
        rw [hrest]
        go_wp2_with fail
        refine (good_any _ _ _ _ HB.out).mono ?_
        rintro e w3 ⟨rfl, rfl⟩
        by_cases hb1 : 1048576 < n
        · go_wp2_with fail
          go_ret3
          exact ⟨opened_none HOP.out, HB2.out⟩
        · go_wp2_with fail
          refine (left_any _ _ _ _ HB.out).mono ?_
          rintro e w3 ⟨rfl, rfl⟩
          rw [hrest]
          by_cases hb4 : s.size - m < 4
          · go_wp2_with fail
            go_ret3
            exact ⟨opened_none HOP.out, HB2.out⟩
          · go_wp2_with fail
            refine (left_any _ _ _ _ HB.out).mono ?_
            rintro e w3 ⟨rfl, rfl⟩
            rw [hrest]
            go_wp2_with fail
            go_ret3
            exact ⟨opened_none HOP.out, HB2.out⟩
      · go_wp2_with fail
        refine (left_any _ _ _ _ HB.out).mono ?_
        rintro e w3 ⟨rfl, rfl⟩
        rw [hrest]
        go_wp2_with fail
        refine (good_any _ _ _ _ HB.out).mono ?_
        rintro e w3 ⟨rfl, rfl⟩
        go_wp2_with fail
        refine (left_any _ _ _ _ HB.out).mono ?_
        rintro e w3 ⟨rfl, rfl⟩
        rw [hrest]
        go_wp2_with fail
        refine (left_any _ _ _ _ HB.out).mono ?_
        rintro e w3 ⟨rfl, rfl⟩
        rw [hrest]
        have hb1 : n ≤ 1048576 := by omega
        have hb2 : m + 4 + n ≤ s.size := by omega
        have e7 : (s.size : Int) - ((s.size - m : Nat) : Int) = (m : Int) := by omega
        have hmn : m ≤ 1099511627776 := by omega
        have w1 : IntKind.i64.wrap ((m : Int) + 4) = (m : Int) + 4 := by simp [IntKind.wrap, IntKind.signed, IntKind.bits]; omega
        have w2 : IntKind.i64.wrap ((m : Int) + 4 + (n : Int)) = (m : Int) + 4 + (n : Int) := by simp [IntKind.wrap, IntKind.signed, IntKind.bits]; omega
        have t1 : ((m : Int) + 4).toNat = m + 4 := by omega
        have t2 : ((m : Int) + 4 + (n : Int)).toNat = m + 4 + n := by omega
        have l1 : (0 : Int) ≤ (m : Int) + 4 := by omega
        have l2 : (m : Int) + 4 ≤ (m : Int) + 4 + (n : Int) := by omega
        have l3 : (m : Int) + 4 + (n : Int) ≤ (s.size : Int) := by omega
        have l4 : (0 : Int) ≤ (m : Int) + 4 + (n : Int) := by omega
        go_wp2_with fail
        try rw [e7]
        go_quiet (fail)
        go_wp2_with fail
        have hm0 : m < s.size := by omega
        have hm1 : m + 1 < s.size := by omega
        have hm2 : m + 2 < s.size := by omega
        have hm3 : m + 3 < s.size := by omega
        obtain ⟨b0, hb0⟩ : ∃ b, b = s[m] := ⟨_, rfl⟩
        obtain ⟨b1, hb1'⟩ : ∃ b, b = s[m + 1] := ⟨_, rfl⟩
        obtain ⟨b2, hb2'⟩ : ∃ b, b = s[m + 2] := ⟨_, rfl⟩
        obtain ⟨b3, hb3'⟩ : ∃ b, b = s[m + 3] := ⟨_, rfl⟩
        obtain ⟨p, hp⟩ : ∃ p, p = s.extract (m + 4) (m + 4 + n) := ⟨_, rfl⟩
        obtain ⟨x, hx⟩ : ∃ x, x = Fr.sum p.data.toList := ⟨_, rfl⟩
        have hpm : p.size ≤ maxLen := by rw [hp, ByteArray.size_extract]; unfold maxLen; omega
        rw [← hp]
        have k0 := b0.toNat_lt
        have k1 := b1.toNat_lt
        have k2 := b2.toNat_lt
        have k3 := b3.toNat_lt
        have HI0 := Lib.hid hb0
        have HI1 := Lib.hid hb1'
        have HI2 := Lib.hid hb2'
        have HI3 := Lib.hid hb3'
        have HP := Lib.hid hp
        have q1 : IntKind.i64.wrap ((m : Int) + 1) = (m : Int) + 1 := by simp [IntKind.wrap, IntKind.signed, IntKind.bits]; omega
        have q2 : IntKind.i64.wrap ((m : Int) + 2) = (m : Int) + 2 := by simp [IntKind.wrap, IntKind.signed, IntKind.bits]; omega
        have q3 : IntKind.i64.wrap ((m : Int) + 3) = (m : Int) + 3 := by simp [IntKind.wrap, IntKind.signed, IntKind.bits]; omega
        have r1 : (0 : Int) ≤ (m : Int) + 1 := by omega
        have r2 : (0 : Int) ≤ (m : Int) + 2 := by omega
        have r3 : (0 : Int) ≤ (m : Int) + 3 := by omega
        have s1 : (m : Int) + 1 < (s.size : Int) := by omega
        have s2 : (m : Int) + 2 < (s.size : Int) := by omega
        have s3 : (m : Int) + 3 < (s.size : Int) := by omega
        have tn1 : ((m : Int) + 1).toNat = m + 1 := by omega
        have tn2 : ((m : Int) + 2).toNat = m + 2 := by omega
        have tn3 : ((m : Int) + 3).toNat = m + 3 := by omega
        clear hb0 hb1' hb2' hb3' hp
        have hG0 : Below w.heap.size w { w3.drewN nq with drawn := (w3.drewN nq).drawn + 1 } := (below_drewN HB2.out nq).drew
        clear w1 w2 t1 t2 l1 l2 l3 l4 e7
        refine wp_region_yields (by kernel_rfl) (OpenV s b0 b1 b2 b3 m p x) (fun W => Below w.heap.size w W) (fun W W' => Below W.heap.size W W') (by kernel_rfl) ?hG ?hmono ?hstep ?hend
        case hG => exact hG0
        case hmono =>
          intro i v W W' hx hv
          match i with
          | 26 => obtain ⟨g, h1, h2⟩ := hv; exact ⟨g, h1, h2.below hx h2.lt⟩
          | 0 | 1 | 2 | 3 | 4 | 5 | 6 | 7 | 8 | 9 | 10 | 11 | 12 | 13 | 14 | 15 | 16 | 17 | 18 | 19 | 20 | 21 | 22 | 23 | 24 | 25 | 27 | 28 => exact hv
          | i + 29 => exact hv
        case hstep =>
          intro i o F U W ho hGW hat hoff hp
          have hrefl := fun W : World => Below.refl W.heap.size W
          match i with
-- BEGIN open6
          | 0 =>
            injection (show some _ = some o from ho) with ho
            subst ho
            exact wp_move' (.tmp 0) rfl ⟨_, rfl, (hoff 0 (of_decide_eq_true (by kernel_rfl))).trans rfl, hGW, hrefl W⟩
          | 1 =>
            injection (show some _ = some o from ho) with ho
            subst ho
            exact wp_move' (.tmp 7) rfl ⟨_, rfl, (hoff 7 (of_decide_eq_true (by kernel_rfl))).trans rfl, hGW, hrefl W⟩
          | 2 =>
            injection (show some _ = some o from ho) with ho
            subst ho
            have hv0 : OpenV s b0 b1 b2 b3 m p x 0 (U 0) W := hp ⟨0, .data⟩ (by simp) rfl
            have ht0 := act_tmp (hat 0 53 (of_decide_eq_true (by kernel_rfl)) rfl)
            have hv1 : OpenV s b0 b1 b2 b3 m p x 1 (U 1) W := hp ⟨1, .data⟩ (by simp) rfl
            have ht1 := act_tmp (hat 1 54 (of_decide_eq_true (by kernel_rfl)) rfl)
            clear hat hoff hp
            rw [hv0] at ht0
            rw [hv1] at ht1
            exact wp_value' (.int .u8 (b0.toNat : Int)) W (by rw [HI0.out]; unfold execOp; go_simp) ⟨_, rfl, rfl, hGW, hrefl W⟩
          | 3 =>
            injection (show some _ = some o from ho) with ho
            subst ho
            have hv2 : OpenV s b0 b1 b2 b3 m p x 2 (U 2) W := hp ⟨2, .data⟩ (by simp) rfl
            have ht2 := act_tmp (hat 2 55 (of_decide_eq_true (by kernel_rfl)) rfl)
            clear hat hoff hp
            rw [hv2] at ht2
            exact wp_value' (.int .u32 (b0.toNat : Int)) W (by unfold execOp; go_simp; try exact u32w _ (by omega) (by omega)) ⟨_, rfl, rfl, hGW, hrefl W⟩
          | 4 =>
            injection (show some _ = some o from ho) with ho
            subst ho
            exact wp_move' (.tmp 0) rfl ⟨_, rfl, (hoff 0 (of_decide_eq_true (by kernel_rfl))).trans rfl, hGW, hrefl W⟩
          | 5 =>
            injection (show some _ = some o from ho) with ho
            subst ho
            exact wp_move' (.tmp 7) rfl ⟨_, rfl, (hoff 7 (of_decide_eq_true (by kernel_rfl))).trans rfl, hGW, hrefl W⟩
          | 6 =>
            injection (show some _ = some o from ho) with ho
            subst ho
            have hv5 : OpenV s b0 b1 b2 b3 m p x 5 (U 5) W := hp ⟨5, .data⟩ (by simp) rfl
            have ht5 := act_tmp (hat 5 58 (of_decide_eq_true (by kernel_rfl)) rfl)
            clear hat hoff hp
            rw [hv5] at ht5
            exact wp_value' (.int .i64 ((m : Int) + 1)) W (by unfold execOp; go_simp) ⟨_, rfl, rfl, hGW, hrefl W⟩
          | 7 =>
            injection (show some _ = some o from ho) with ho
            subst ho
            have hv4 : OpenV s b0 b1 b2 b3 m p x 4 (U 4) W := hp ⟨4, .data⟩ (by simp) rfl
            have ht4 := act_tmp (hat 4 57 (of_decide_eq_true (by kernel_rfl)) rfl)
            have hv6 : OpenV s b0 b1 b2 b3 m p x 6 (U 6) W := hp ⟨6, .data⟩ (by simp) rfl
            have ht6 := act_tmp (hat 6 59 (of_decide_eq_true (by kernel_rfl)) rfl)
            clear hat hoff hp
            rw [hv4] at ht4
            rw [hv6] at ht6
            exact wp_value' (.int .u8 (b1.toNat : Int)) W (by rw [HI1.out]; unfold execOp; go_simp) ⟨_, rfl, rfl, hGW, hrefl W⟩
          | 8 =>
            injection (show some _ = some o from ho) with ho
            subst ho
            have hv7 : OpenV s b0 b1 b2 b3 m p x 7 (U 7) W := hp ⟨7, .data⟩ (by simp) rfl
            have ht7 := act_tmp (hat 7 60 (of_decide_eq_true (by kernel_rfl)) rfl)
            clear hat hoff hp
            rw [hv7] at ht7
            exact wp_value' (.int .u32 (b1.toNat : Int)) W (by unfold execOp; go_simp; try exact u32w _ (by omega) (by omega)) ⟨_, rfl, rfl, hGW, hrefl W⟩
          | 9 =>
            injection (show some _ = some o from ho) with ho
            subst ho
            have hv8 : OpenV s b0 b1 b2 b3 m p x 8 (U 8) W := hp ⟨8, .data⟩ (by simp) rfl
            have ht8 := act_tmp (hat 8 61 (of_decide_eq_true (by kernel_rfl)) rfl)
            clear hat hoff hp
            rw [hv8] at ht8
            exact wp_value' (.int .u32 ((b1.toNat : Int) * 256)) W (by unfold execOp; go_simp; try (first | exact u32w _ (by omega) (by omega) | omega)) ⟨_, rfl, rfl, hGW, hrefl W⟩
          | 10 =>
            injection (show some _ = some o from ho) with ho
            subst ho
            have hv3 : OpenV s b0 b1 b2 b3 m p x 3 (U 3) W := hp ⟨3, .data⟩ (by simp) rfl
            have ht3 := act_tmp (hat 3 56 (of_decide_eq_true (by kernel_rfl)) rfl)
            have hv9 : OpenV s b0 b1 b2 b3 m p x 9 (U 9) W := hp ⟨9, .data⟩ (by simp) rfl
            have ht9 := act_tmp (hat 9 62 (of_decide_eq_true (by kernel_rfl)) rfl)
            clear hat hoff hp
            rw [hv3] at ht3
            rw [hv9] at ht9
            exact wp_value' (.int .u32 ((b0.toNat : Int) + b1.toNat * 256)) W (by unfold execOp; go_simp; exact or32a b0 b1) ⟨_, rfl, rfl, hGW, hrefl W⟩
          | 11 =>
            injection (show some _ = some o from ho) with ho
            subst ho
            exact wp_move' (.tmp 0) rfl ⟨_, rfl, (hoff 0 (of_decide_eq_true (by kernel_rfl))).trans rfl, hGW, hrefl W⟩
          | 12 =>
            injection (show some _ = some o from ho) with ho
            subst ho
            exact wp_move' (.tmp 7) rfl ⟨_, rfl, (hoff 7 (of_decide_eq_true (by kernel_rfl))).trans rfl, hGW, hrefl W⟩
          | 13 =>
            injection (show some _ = some o from ho) with ho
            subst ho
            have hv12 : OpenV s b0 b1 b2 b3 m p x 12 (U 12) W := hp ⟨12, .data⟩ (by simp) rfl
            have ht12 := act_tmp (hat 12 65 (of_decide_eq_true (by kernel_rfl)) rfl)
            clear hat hoff hp
            rw [hv12] at ht12
            exact wp_value' (.int .i64 ((m : Int) + 2)) W (by unfold execOp; go_simp) ⟨_, rfl, rfl, hGW, hrefl W⟩
          | 14 =>
            injection (show some _ = some o from ho) with ho
            subst ho
            have hv11 : OpenV s b0 b1 b2 b3 m p x 11 (U 11) W := hp ⟨11, .data⟩ (by simp) rfl
            have ht11 := act_tmp (hat 11 64 (of_decide_eq_true (by kernel_rfl)) rfl)
            have hv13 : OpenV s b0 b1 b2 b3 m p x 13 (U 13) W := hp ⟨13, .data⟩ (by simp) rfl
            have ht13 := act_tmp (hat 13 66 (of_decide_eq_true (by kernel_rfl)) rfl)
            clear hat hoff hp
            rw [hv11] at ht11
            rw [hv13] at ht13
            exact wp_value' (.int .u8 (b2.toNat : Int)) W (by rw [HI2.out]; unfold execOp; go_simp) ⟨_, rfl, rfl, hGW, hrefl W⟩
          | 15 =>
            injection (show some _ = some o from ho) with ho
            subst ho
            have hv14 : OpenV s b0 b1 b2 b3 m p x 14 (U 14) W := hp ⟨14, .data⟩ (by simp) rfl
            have ht14 := act_tmp (hat 14 67 (of_decide_eq_true (by kernel_rfl)) rfl)
            clear hat hoff hp
            rw [hv14] at ht14
            exact wp_value' (.int .u32 (b2.toNat : Int)) W (by unfold execOp; go_simp; try exact u32w _ (by omega) (by omega)) ⟨_, rfl, rfl, hGW, hrefl W⟩
          | 16 =>
            injection (show some _ = some o from ho) with ho
            subst ho
            have hv15 : OpenV s b0 b1 b2 b3 m p x 15 (U 15) W := hp ⟨15, .data⟩ (by simp) rfl
            have ht15 := act_tmp (hat 15 68 (of_decide_eq_true (by kernel_rfl)) rfl)
            clear hat hoff hp
            rw [hv15] at ht15
            exact wp_value' (.int .u32 ((b2.toNat : Int) * 65536)) W (by unfold execOp; go_simp; try (first | exact u32w _ (by omega) (by omega) | omega)) ⟨_, rfl, rfl, hGW, hrefl W⟩
          | 17 =>
            injection (show some _ = some o from ho) with ho
            subst ho
            have hv10 : OpenV s b0 b1 b2 b3 m p x 10 (U 10) W := hp ⟨10, .data⟩ (by simp) rfl
            have ht10 := act_tmp (hat 10 63 (of_decide_eq_true (by kernel_rfl)) rfl)
            have hv16 : OpenV s b0 b1 b2 b3 m p x 16 (U 16) W := hp ⟨16, .data⟩ (by simp) rfl
            have ht16 := act_tmp (hat 16 69 (of_decide_eq_true (by kernel_rfl)) rfl)
            clear hat hoff hp
            rw [hv10] at ht10
            rw [hv16] at ht16
            exact wp_value' (.int .u32 ((b0.toNat : Int) + b1.toNat * 256 + b2.toNat * 65536)) W (by unfold execOp; go_simp; exact or32b b0 b1 b2) ⟨_, rfl, rfl, hGW, hrefl W⟩
          | 18 =>
            injection (show some _ = some o from ho) with ho
            subst ho
            exact wp_move' (.tmp 0) rfl ⟨_, rfl, (hoff 0 (of_decide_eq_true (by kernel_rfl))).trans rfl, hGW, hrefl W⟩
          | 19 =>
            injection (show some _ = some o from ho) with ho
            subst ho
            exact wp_move' (.tmp 7) rfl ⟨_, rfl, (hoff 7 (of_decide_eq_true (by kernel_rfl))).trans rfl, hGW, hrefl W⟩
          | 20 =>
            injection (show some _ = some o from ho) with ho
            subst ho
            have hv19 : OpenV s b0 b1 b2 b3 m p x 19 (U 19) W := hp ⟨19, .data⟩ (by simp) rfl
            have ht19 := act_tmp (hat 19 72 (of_decide_eq_true (by kernel_rfl)) rfl)
            clear hat hoff hp
            rw [hv19] at ht19
            exact wp_value' (.int .i64 ((m : Int) + 3)) W (by unfold execOp; go_simp) ⟨_, rfl, rfl, hGW, hrefl W⟩
          | 21 =>
            injection (show some _ = some o from ho) with ho
            subst ho
            have hv18 : OpenV s b0 b1 b2 b3 m p x 18 (U 18) W := hp ⟨18, .data⟩ (by simp) rfl
            have ht18 := act_tmp (hat 18 71 (of_decide_eq_true (by kernel_rfl)) rfl)
            have hv20 : OpenV s b0 b1 b2 b3 m p x 20 (U 20) W := hp ⟨20, .data⟩ (by simp) rfl
            have ht20 := act_tmp (hat 20 73 (of_decide_eq_true (by kernel_rfl)) rfl)
            clear hat hoff hp
            rw [hv18] at ht18
            rw [hv20] at ht20
            exact wp_value' (.int .u8 (b3.toNat : Int)) W (by rw [HI3.out]; unfold execOp; go_simp) ⟨_, rfl, rfl, hGW, hrefl W⟩
          | 22 =>
            injection (show some _ = some o from ho) with ho
            subst ho
            have hv21 : OpenV s b0 b1 b2 b3 m p x 21 (U 21) W := hp ⟨21, .data⟩ (by simp) rfl
            have ht21 := act_tmp (hat 21 74 (of_decide_eq_true (by kernel_rfl)) rfl)
            clear hat hoff hp
            rw [hv21] at ht21
            exact wp_value' (.int .u32 (b3.toNat : Int)) W (by unfold execOp; go_simp; try exact u32w _ (by omega) (by omega)) ⟨_, rfl, rfl, hGW, hrefl W⟩
          | 23 =>
            injection (show some _ = some o from ho) with ho
            subst ho
            have hv22 : OpenV s b0 b1 b2 b3 m p x 22 (U 22) W := hp ⟨22, .data⟩ (by simp) rfl
            have ht22 := act_tmp (hat 22 75 (of_decide_eq_true (by kernel_rfl)) rfl)
            clear hat hoff hp
            rw [hv22] at ht22
            exact wp_value' (.int .u32 ((b3.toNat : Int) * 16777216)) W (by unfold execOp; go_simp; try (first | exact u32w _ (by omega) (by omega) | omega)) ⟨_, rfl, rfl, hGW, hrefl W⟩
          | 24 =>
            injection (show some _ = some o from ho) with ho
            subst ho
            have hv17 : OpenV s b0 b1 b2 b3 m p x 17 (U 17) W := hp ⟨17, .data⟩ (by simp) rfl
            have ht17 := act_tmp (hat 17 70 (of_decide_eq_true (by kernel_rfl)) rfl)
            have hv23 : OpenV s b0 b1 b2 b3 m p x 23 (U 23) W := hp ⟨23, .data⟩ (by simp) rfl
            have ht23 := act_tmp (hat 23 76 (of_decide_eq_true (by kernel_rfl)) rfl)
            clear hat hoff hp
            rw [hv17] at ht17
            rw [hv23] at ht23
            exact wp_value' (.int .u32 ((b0.toNat : Int) + b1.toNat * 256 + b2.toNat * 65536 + b3.toNat * 16777216)) W (by unfold execOp; go_simp; exact or32c b0 b1 b2 b3) ⟨_, rfl, rfl, hGW, hrefl W⟩
          | 25 =>
            injection (show some _ = some o from ho) with ho
            subst ho
            exact wp_move' (.tmp 2) rfl ⟨_, rfl, (hoff 2 (of_decide_eq_true (by kernel_rfl))).trans rfl, hGW, hrefl W⟩
          | 26 =>
            injection (show some _ = some o from ho) with ho
            subst ho
            have hv25 : OpenV s b0 b1 b2 b3 m p x 25 (U 25) W := hp ⟨25, .data⟩ (by simp) rfl
            have ht25 := act_tmp (hat 25 78 (of_decide_eq_true (by kernel_rfl)) rfl)
            clear hat hoff hp
            rw [hv25] at ht25
            have ha : Below W.heap.size W (W.alloc (.cells #[.string p] 9)) := (Below.refl _ _).alloc (Nat.le_refl _) _
            exact wp_value' (.slice (some ⟨W.heap.size, 0, none⟩) 1 1) (W.alloc (.cells #[.string p] 9)) (by unfold execOp; go_simp) ⟨_, rfl, ⟨_, rfl, Blk.new W _ _⟩, hGW.trans (ha.mono hGW.size), ha⟩
          | 27 =>
            injection (show some _ = some o from ho) with ho
            subst ho
            have hv26 : OpenV s b0 b1 b2 b3 m p x 26 (U 26) W := hp ⟨26, .data⟩ (by simp) rfl
            have ht26 := act_tmp (hat 26 79 (of_decide_eq_true (by kernel_rfl)) rfl)
            clear hat hoff hp
            obtain ⟨g, hg, hbk⟩ := hv26
            rw [hg] at ht26
            refine wp_enter' 20 #[.slice (some ⟨g, 0, none⟩) 1 1] (by unfold execOp; go_simp) ?_
            refine (sum_one p ⟨g, 0, none⟩ W 1 hpm (by rw [hbk.cell 0]; rfl)).mono ?_
            rintro e W' ⟨rfl, rfl⟩
            exact ⟨_, rfl, _, rfl, by rw [hx]; rfl, hGW, hrefl W⟩
          | 28 =>
            injection (show some _ = some o from ho) with ho
            subst ho
            have hv24 : OpenV s b0 b1 b2 b3 m p x 24 (U 24) W := hp ⟨24, .data⟩ (by simp) rfl
            have ht24 := act_tmp (hat 24 77 (of_decide_eq_true (by kernel_rfl)) rfl)
            have hv27 : OpenV s b0 b1 b2 b3 m p x 27 (U 27) W := hp ⟨27, .data⟩ (by simp) rfl
            have ht27 := act_tmp (hat 27 80 (of_decide_eq_true (by kernel_rfl)) rfl)
            clear hat hoff hp
            rw [hv24] at ht24
            rw [hv27] at ht27
            exact wp_value' (.bool (((b0.toNat : Int) + b1.toNat * 256 + b2.toNat * 65536 + b3.toNat * 16777216) == (x.toNat : Int))) W (by unfold execOp; go_simp) ⟨_, rfl, rfl, hGW, hrefl W⟩
-- END open6
          | i + 29 => exact absurd ho (by simp)
        case hend =>
          intro U W hGW hV
          have h28 := hV 28 (of_decide_eq_true (by kernel_rfl))
          simp only [OpenV] at h28
          have HBW := Lib.hid hGW
          have hpl : p.data.toList = (s.data.toList.drop (m + 4)).take n := by
            rw [HP.out, Lib.extract_data]
            congr 1
            omega
          have hrl : (s.extract (m + 4 + n) s.size) = ⟨(s.data.toList.drop (m + 4 + n)).toArray⟩ := by
            apply ByteArray.ext
            apply Array.ext'
            rw [Lib.extract_data, List.take_of_length_le (by simp)]
          have hf4 : (s.data.toList.drop m).take 4 = [b0, b1, b2, b3] := by
            rw [drop_byte s m hm0, drop_byte s (m + 1) hm1, drop_byte s (m + 2) hm2, drop_byte s (m + 3) hm3, HI0.out, HI1.out, HI2.out, HI3.out]
            rfl
          have hop : Fr.openF s.data.toList = if (b0.toNat : Int) + b1.toNat * 256 + b2.toNat * 65536 + b3.toNat * 16777216 = x.toNat then some (p.data.toList, s.data.toList.drop (m + 4 + n)) else none := by
            unfold Fr.openF
            rw [HD.out]
            simp only
            rw [if_neg (by
              rw [← HN.out]
              have hsl : s.data.toList.length = s.size := by simp
              rw [hsl]
              omega), ← HN.out, hf4, ← hpl, ← hx]
            by_cases h : (b0.toNat : Int) + b1.toNat * 256 + b2.toNat * 65536 + b3.toNat * 16777216 = x.toNat
            · rw [if_pos ((four_le4 _ _ _ _ _).2 h), if_pos h]
            · rw [if_neg (fun e => h ((four_le4 _ _ _ _ _).1 e)), if_neg h]
          have HOP := Lib.hid hop
          have HRL := Lib.hid hrl
          clear hV hGW hop hrl hf4 hpl
          by_cases h : (b0.toNat : Int) + b1.toNat * 256 + b2.toNat * 65536 + b3.toNat * 16777216 = x.toNat
          · have hq : (((b0.toNat : Int) + b1.toNat * 256 + b2.toNat * 65536 + b3.toNat * 16777216) == (x.toNat : Int)) = true := by rw [h]; simp
            rw [hq] at h28
            have hop2 : Fr.openF s.data.toList = some (p.data.toList, s.data.toList.drop (m + 4 + n)) := by rw [HOP.out, if_pos h]
            have HO2 := Lib.hid hop2
            clear hop2 hq h
            simp [putU, dstAt, Act.put, Exit.then, h28]
            go_wp2
            go_ret3
            exact ⟨opened_some HO2.out (str_list p) HRL.out, HBW.out⟩
          · have hq : (((b0.toNat : Int) + b1.toNat * 256 + b2.toNat * 65536 + b3.toNat * 16777216) == (x.toNat : Int)) = false := by simpa using h
            rw [hq] at h28
            have hop2 : Fr.openF s.data.toList = none := by rw [HOP.out, if_neg h]
            have HO2 := Lib.hid hop2
            clear hop2 hq h
            simp [putU, dstAt, Act.put, Exit.then, h28]
            go_wp2
            go_ret3
            exact ⟨opened_none HO2.out, HBW.out⟩
end Go.Proofs.Ytehhhclpeefnmaa
