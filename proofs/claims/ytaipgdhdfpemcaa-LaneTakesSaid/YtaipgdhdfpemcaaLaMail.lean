/-
  THE WALKS OF THE LANE: whether a mail may be.
-/
import Derived.Test.YtaipgdhdfpemcaaLaSeam
import Derived.Test.YtaipgdhdfpemcaaDraw
namespace Go.Proofs.Ytaipgdhdfpemcaa
open Go.RowKit

theorem ret_bool' {a b : Bool} (h : a = b) : Ending.returned (.bool a) = .returned (.bool b) := by rw [h]

/-- a number in memory is within bounds -/
theorem within1 (lo hi x : Int) (g c : Nat) (t : TypeId) (w : World) (h : Blk w g t #[.int .i64 x]) :
    Calls Try.prog 75 #[.int .i64 lo, .int .i64 hi, .slice (some ⟨g, 0, none⟩) 1 c] w fun e w' => e = .returned (.bool (decide (lo ≤ x) && decide (x ≤ hi))) ∧ w = w' := by
  have hc := h.cell 0
  simp at hc
  clear h
  go_enter Try.func75, Try.ntmps75
  go_wp2_with fail
  go_loop [11] (fun i => ∃ k : Nat, k ≤ 1 ∧ i = .int .i64 k ∧ (k = 1 → lo ≤ x ∧ x ≤ hi)) (fun i => 1 - (intOf i).toNat)
  case atStart => exact ⟨0, by omega, rfl, by omega⟩
  case round =>
    obtain ⟨k, hk, rfl, hin⟩ := hrel
    rcases Nat.lt_or_ge k 1 with hk1 | hk1
    · obtain rfl : k = 0 := by omega
      by_cases h1 : x < lo
      · go_wp2
        go_ret
        exact ⟨congrArg (fun b => Ending.returned (.bool b)) (by have : ¬ lo ≤ x := by omega
                                                                 simp [this]), rfl⟩
      · by_cases h2 : hi < x
        · go_wp2
          go_ret
          exact ⟨congrArg (fun b => Ending.returned (.bool b)) (by have : ¬ x ≤ hi := by omega
                                                                   simp [this]), rfl⟩
        · go_wp2
          go_round
          case rel => exact ⟨1, by omega, by go_num, fun _ => by omega⟩
          case measure => simp [intOf]
    · obtain rfl : k = 1 := by omega
      obtain ⟨h1, h2⟩ := hin rfl
      go_wp2
      go_ret
      exact ⟨congrArg (fun b => Ending.returned (.bool b)) (by rfl), rfl⟩

/-- may a place stand there? -/
def placeB (n e : Int) : Bool := decide (0 ≤ n) && decide (n ≤ 80) && (decide (0 ≤ e) && decide (e ≤ 16)) && ((n == 0) == (e == 0))

theorem within_new (lo hi x : Int) (g : Nat) (t : TypeId) (W : World) (hg : g = W.heap.size) :
    Calls Try.prog 75 #[.int .i64 lo, .int .i64 hi, .slice (some ⟨g, 0, none⟩) 1 1] (W.alloc (.cells #[.int .i64 x] t)) fun e w' => e = .returned (.bool (decide (lo ≤ x) && decide (x ≤ hi))) ∧ W.alloc (.cells #[.int .i64 x] t) = w' := by
  subst hg
  exact within1 lo hi x _ 1 t _ (Blk.new W t _)

set_option maxHeartbeats 1000000 in
theorem place_any (n e : Int) (w : World) :
    Calls Try.prog 105 #[.agg #[.int .i64 n, .int .i64 e]] w fun x w' => x = .returned (.bool (placeB n e)) ∧ Below w.heap.size w w' := by
  obtain ⟨b1, hb1⟩ : ∃ b1, b1 = (decide (0 ≤ n) && decide (n ≤ 80)) := ⟨_, rfl⟩
  obtain ⟨b2, hb2⟩ : ∃ b2, b2 = (decide (0 ≤ e) && decide (e ≤ 16)) := ⟨_, rfl⟩
  have hp : placeB n e = (b1 && b2 && ((n == 0) == (e == 0))) := by rw [hb1, hb2]; rfl
  have HP := Lib.hid hp
  have H1 := Lib.hid hb1
  have H2 := Lib.hid hb2
  clear hp hb1 hb2
  go_enter Try.func105, Try.ntmps105
  go_wp2_with fail
  refine (within_new 0 80 n _ _ _ (by simp)).mono ?_
  rintro x w1 ⟨rfl, rfl⟩
  rw [← H1.out]
  cases b1 with
  | false =>
    go_wp2
    go_ret
    exact ⟨ret_bool' (by rw [HP.out]; rfl), ((Below.refl _ _).alloc (Nat.le_refl _) _).alloc (by simp) _⟩
  | true =>
    go_wp2_with fail
    refine (within_new 0 16 e _ _ _ (by simp)).mono ?_
    rintro x w1 ⟨rfl, rfl⟩
    rw [← H2.out]
    cases b2 with
    | false =>
      go_wp2
      go_ret
      exact ⟨ret_bool' (by rw [HP.out]; rfl), (((Below.refl _ _).alloc (Nat.le_refl _) _).alloc (by simp) _).alloc (by simp; omega) _⟩
    | true =>
      go_wp2
      go_ret
      exact ⟨ret_bool' (by rw [HP.out]; simp), (((Below.refl _ _).alloc (Nat.le_refl _) _).alloc (by simp) _).alloc (by simp; omega) _⟩

/-- do numbers rise, up to one? -/
def riseB (up : Int) : Int → List Int → Bool
  | _, [] => true
  | last, n :: l => decide (last < n) && decide (n ≤ up) && riseB up n l

set_option maxHeartbeats 1000000 in
theorem rise_any (up : Int) (B : Nat) (A : Option Addr) (n c : Nat) (l : List Int) (w : World) (h : Reads w B 1 A n (intV .i64 l)) (hn : n ≤ maxLen) :
    Calls Try.prog 106 #[.int .i64 up, .slice A n c] w fun e w' => e = .returned (.bool (riseB up 0 l)) ∧ w = w' := by
  have hlen := ints_len h
  have HR := Lib.hid h
  have HL := Lib.hid hlen
  clear h hlen
  unfold maxLen at hn
  go_enter Try.func106, Try.ntmps106
  go_wp2_with fail
  go_loop [5, 10] (fun s i => ∃ (k : Nat) (m : Int), k ≤ n ∧ s = .int .i64 m ∧ i = .int .i64 k ∧ riseB up 0 l = riseB up m (l.drop k)) (fun _ i => n - (intOf i).toNat)
  case atStart => exact ⟨0, 0, by omega, rfl, rfl, rfl⟩
  case round =>
    obtain ⟨k, m, hk, rfl, rfl, hrl⟩ := hrel
    have HRL := Lib.hid hrl
    clear hrl
    rcases Nat.lt_or_ge k n with hk1 | hk1
    · obtain ⟨ad, hA, hcell⟩ := int_at HR.out hk1
      have hkl : k < l.length := by rw [HL.out]; exact hk1
      have hdr : l.drop k = l.getD k 0 :: l.drop (k + 1) := by
        rw [List.drop_eq_getElem_cons hkl]
        simp [List.getD, hkl]
      obtain ⟨x, hx⟩ : ∃ x, x = l.getD k 0 := ⟨_, rfl⟩
      rw [← hx] at hcell hdr
      have HDR := Lib.hid hdr
      clear hx hdr
      subst hA
      by_cases h1 : x ≤ m
      · go_wp2
        go_ret
        exact ⟨ret_bool' (by rw [HRL.out, HDR.out]; simp [riseB, show ¬ m < x by omega]), rfl⟩
      · by_cases h2 : up < x
        · go_wp2
          go_ret
          exact ⟨ret_bool' (by rw [HRL.out, HDR.out]; simp [riseB, show ¬ x ≤ up by omega]), rfl⟩
        · go_wp2
          go_round
          case rel => exact ⟨k + 1, x, by omega, rfl, by go_num, by rw [HRL.out, HDR.out]; simp [riseB, show m < x by omega, show x ≤ up by omega]⟩
          case measure => simp [intOf]; omega
    · obtain rfl : n = k := by omega
      have hdr : l.drop n = [] := List.drop_of_length_le (by rw [HL.out]; exact Nat.le_refl _)
      have HDR := Lib.hid hdr
      clear hdr
      go_wp2
      go_ret
      exact ⟨ret_bool' (by rw [HRL.out, HDR.out]; rfl), rfl⟩
end Go.Proofs.Ytaipgdhdfpemcaa
