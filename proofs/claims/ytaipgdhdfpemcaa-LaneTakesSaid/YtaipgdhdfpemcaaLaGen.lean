/-
  THE WALKS OF THE LANE: a lane in general: what it says, where it lies; its small functions.
-/
import Derived.Test.YtaipgdhdfpemcaaLaCmd
import Derived.Test.YtaipgdhdfpemcaaLaLane
import Derived.Test.YtaipgdhdfpemcaaDraw3
import Derived.IntWalk
namespace Go.Proofs.Ytaipgdhdfpemcaa
open Go.RowKit

/-- what a lane says -/
structure LaneC where
  mN : Int
  mE : Int
  wN : Int
  wE : Int
  holes : List Int
  epoch : Int
  site : Int
  next : Int
structure LaneC.Ok (l : LaneC) : Prop where
  mN : I64 l.mN
  mE : I64 l.mE
  wN : I64 l.wN
  wE : I64 l.wE
  holes : l.holes.length * 8 ≤ 140737488351232
  each : ∀ z ∈ l.holes, I64 z
  epoch : I64 l.epoch
  site : I64 l.site
  next : I64 l.next
/-- a lane lies there -/
def LaneIs (w : World) (S : Nat → Prop) (b : Nat) (l : LaneC) : Prop :=
  ∃ oA on oc, Blk w b 127 (laneC l.mN l.mE l.wN l.wE oA on oc l.epoch l.site l.next) ∧ IntIs w S oA on oc l.holes
section
variable {w w' : World} {S S' : Nat → Prop} {b : Nat} {l : LaneC}
theorem LaneIs.below (h : LaneIs w S b l) (hb : Below w.heap.size w w') : LaneIs w' S b l := by
  obtain ⟨oA, on, oc, h1, h2⟩ := h
  exact ⟨oA, on, oc, h1.below hb h1.lt, h2.below hb⟩
theorem LaneIs.lt (h : LaneIs w S b l) : b < w.heap.size := by
  obtain ⟨oA, on, oc, h1, h2⟩ := h
  exact h1.lt
theorem LaneIs.kept (h : LaneIs w S b l) (hk : Kept S w w') (hb : w'.heap[b]? = w.heap[b]?) : LaneIs w' S b l := by
  obtain ⟨oA, on, oc, h1, h2⟩ := h
  exact ⟨oA, on, oc, hb.trans h1, h2.kept hk⟩
end

set_option maxHeartbeats 1000000 in
/-- numbers in new memory -/
theorem cloneInts_any {A : Option Addr} {n c : Nat} {xs : List Int} {S : Nat → Prop} (w : World) (h : IntIs w S A n c xs) (hn : n * 8 ≤ 140737488351232) :
    Calls Try.prog 61 #[.slice A n c] w fun x w' => ∃ A' c', x = .returned (.slice A' n c') ∧ IntIs w' (From w.heap.size) A' n c' xs ∧ Below w.heap.size w w' := by
  rcases A with _ | ad
  · have h0 : n = 0 := by
      rcases Nat.eq_zero_or_pos n with h0 | h0
      · exact h0
      · obtain ⟨_, h, _⟩ := h.1.2 h0
        cases h
    subst h0
    have hl := h.len
    obtain rfl : xs = [] := List.eq_nil_of_length_eq_zero hl
    have q : ∀ (w : World), (binOp .eql 27 (.slice none 0 c) (.slice none 0 0)).run Try.prog w = .ok (.bool true) w := fun w => Lib.run_eql_slice_nil w _ _ none 0 c 0 0 Try.underlying27
    clear h hl
    go_enter Try.func61, Try.ntmps61
    go_wp2
    go_ret
    exact ⟨none, 0, rfl, ⟨Rs.nil_ _ _ _ _, Nat.le_refl _, Nat.zero_le _⟩, Below.refl _ _⟩
  · have HR := Lib.hid h
    clear h
    obtain ⟨i0, hi0, hz0, hz1, hz2⟩ := info_parts Try.infoInt
    have HI := Lib.hid hi0
    have HZ0 := Lib.hid hz0
    have HZ1 := Lib.hid hz1
    have HZ2 := Lib.hid hz2
    clear hi0 hz0 hz1 hz2
    have q : ∀ (w : World), (binOp .eql 27 (.slice (some ad) n c) (.slice none 0 0)).run Try.prog w = .ok (.bool false) w := fun w => Lib.run_eql_slice_nil w _ _ (some ad) n c 0 0 Try.underlying27
    go_enter Try.func61, Try.ntmps61
    go_wp2_with (at_builtin; refine wpList_append_any _ rfl (.tmp 5) (.tmp 6) _ rfl w.heap.size 3 i0 _ 1 8 Try.underlying27 HI.out HZ0.out HZ1.out HZ2.out rfl (by omega) (.slice (some ⟨w.heap.size, 0, none⟩) 0 0) 0 [] rfl (own_empty w _ 1) w.heap.size (some ad) n c (intV .i64 xs) rfl (HR.out.1.reads.alloc (Nat.le_refl _) _) (intV_one xs) ?c1 ?c2 ?c3 ?_)
    case c1 => unfold maxLen; omega
    case c2 => omega
    case c3 => simp
    intro v1 w2 hown hg hat
    try simp only [Nat.zero_add, List.nil_append] at hown
    have hb2 : Below w.heap.size w w2 := ((Below.refl _ _).alloc (Nat.le_refl _) _).grown hg (by simp) (by intro k hk; simp [Value.ownBlock] at hk; omega)
    obtain ⟨g1, c1, cur, rfl, hc1, hcm, hg1, hbk, hrd⟩ := own_blk hown hat
    have HB := Lib.hid hb2
    have HD := Lib.hid hrd
    clear hown hg hat hrd hb2 hbk
    go_wp2
    go_ret
    exact ⟨_, _, rfl, ⟨Rs.of HD.out fun _ ad e => by injection e with e; subst e; exact hg1, hc1, hcm⟩, HB.out⟩

theorem markL_any (b : Nat) (l : LaneC) {S : Nat → Prop} (w : World) (h : LaneIs w S b l) :
    Calls Try.prog 29 #[.pointer (some ⟨b, 0, none⟩)] w fun x w' => x = .returned (.agg #[.int .i64 l.mN, .int .i64 l.mE]) ∧ Below w.heap.size w w' := by
  obtain ⟨oA, on, oc, h1, h2⟩ := h
  have c0 := (h1.alloc (.cells #[.int .i64 0, .int .i64 0] 26)).cell 0
  have c1 := (h1.alloc (.cells #[.int .i64 0, .int .i64 0] 26)).cell 1
  simp at c0 c1
  clear h1 h2
  go_enter Try.func29, Try.ntmps29
  go_wp2
  refine bodyPost_ret (v := .agg #[.int .i64 l.mN, .int .i64 l.mE]) (by simp [results, Try.results29, go_sem]) rfl ?_
  exact ⟨rfl, (Below.refl _ _).alloc (Nat.le_refl _) _⟩

theorem nextL_any (b : Nat) (l : LaneC) {S : Nat → Prop} (w : World) (h : LaneIs w S b l) :
    Calls Try.prog 33 #[.pointer (some ⟨b, 0, none⟩)] w fun x w' => x = .returned (.int .i64 l.next) ∧ w' = w := by
  obtain ⟨oA, on, oc, h1, h2⟩ := h
  have c7 := h1.cell 7
  simp at c7
  clear h1 h2
  go_enter Try.func33, Try.ntmps33
  go_wp2
  go_ret
  exact ⟨rfl, rfl⟩

theorem newL_ok (e s n : Int) (w : World) (he : 1 ≤ e ∧ e ≤ 16) (hs : 0 ≤ s ∧ s < 2) (hn : 0 ≤ n ∧ n ≤ 80) :
    Calls Try.prog 25 #[.int .i64 e, .int .i64 s, .int .i64 n] w fun x w' => x = .returned (.tuple #[.pointer (some ⟨w.heap.size, 0, none⟩), .int .i64 0]) ∧ w' = w.alloc (.cells (laneC 0 0 0 0 none 0 0 e s n) 127) := by
  have t1 : decide (e < 1) = false := decide_eq_false (by omega)
  have t2 : decide (16 < e) = false := decide_eq_false (by omega)
  have t3 : decide (s < 0) = false := decide_eq_false (by omega)
  have t4 : decide (2 ≤ s) = false := decide_eq_false (by omega)
  have t5 : decide (n < 0) = false := decide_eq_false (by omega)
  have t6 : decide (80 < n) = false := decide_eq_false (by omega)
  clear he hs hn
  go_enter Try.func25, Try.ntmps25
  go_wp2
  go_ret2
  exact ⟨rfl, rfl⟩
/-- may a lane be? -/
def newB (e s n : Int) : Bool := decide (1 ≤ e ∧ e ≤ 16 ∧ 0 ≤ s ∧ s < 2 ∧ 0 ≤ n ∧ n ≤ 80)
theorem newL_no (e s n : Int) (w : World) (h : newB e s n = false) :
    Calls Try.prog 25 #[.int .i64 e, .int .i64 s, .int .i64 n] w fun x w' => x = .returned (.tuple #[.pointer none, .int .i64 1]) ∧ w' = w := by
  have h0 := of_decide_eq_false h
  by_cases h1 : e < 1
  · have t1 : decide (e < 1) = true := decide_eq_true h1
    clear h h0 h1
    go_enter Try.func25, Try.ntmps25
    go_wp2
    go_ret2
    exact ⟨rfl, rfl⟩
  have t1 : decide (e < 1) = false := decide_eq_false h1
  by_cases h2 : 16 < e
  · have t2 : decide (16 < e) = true := decide_eq_true h2
    clear h h0 h1 h2
    go_enter Try.func25, Try.ntmps25
    go_wp2
    go_ret2
    exact ⟨rfl, rfl⟩
  have t2 : decide (16 < e) = false := decide_eq_false h2
  by_cases h3 : s < 0
  · have t3 : decide (s < 0) = true := decide_eq_true h3
    clear h h0 h1 h2 h3
    go_enter Try.func25, Try.ntmps25
    go_wp2
    go_ret2
    exact ⟨rfl, rfl⟩
  have t3 : decide (s < 0) = false := decide_eq_false h3
  by_cases h4 : 2 ≤ s
  · have t4 : decide (2 ≤ s) = true := decide_eq_true h4
    clear h h0 h1 h2 h3 h4
    go_enter Try.func25, Try.ntmps25
    go_wp2
    go_ret2
    exact ⟨rfl, rfl⟩
  have t4 : decide (2 ≤ s) = false := decide_eq_false h4
  by_cases h5 : n < 0
  · have t5 : decide (n < 0) = true := decide_eq_true h5
    clear h h0 h1 h2 h3 h4 h5
    go_enter Try.func25, Try.ntmps25
    go_wp2
    go_ret2
    exact ⟨rfl, rfl⟩
  have t5 : decide (n < 0) = false := decide_eq_false h5
  have t6 : decide (80 < n) = true := decide_eq_true (by omega)
  clear h h0 h1 h2 h3 h4 h5
  go_enter Try.func25, Try.ntmps25
  go_wp2
  go_ret2
  exact ⟨rfl, rfl⟩
end Go.Proofs.Ytaipgdhdfpemcaa
