/-
  THE WALKS OF THE LANE: small functions.
-/
import Derived.Test.YtaipgdhdfpemcaaLaChk
import Derived.WideMake
import Derived.Lib.SliceRun
namespace Go.Proofs.Ytaipgdhdfpemcaa
open Go.RowKit

/-- a lane's cells -/
@[reducible] def laneC (mN mE wN wE : Int) (oA : Option Addr) (on oc : Nat) (epoch site next : Int) : Array Value :=
  #[.int .i64 mN, .int .i64 mE, .int .i64 wN, .int .i64 wE, .slice oA on oc, .int .i64 epoch, .int .i64 site, .int .i64 next]

theorem new_aw (w : World) : Calls Try.prog 25 #[.int .i64 1, .int .i64 0, .int .i64 2] w fun x w' => x = .returned (.tuple #[.pointer (some ⟨w.heap.size, 0, none⟩), .int .i64 0]) ∧ w' = w.alloc (.cells (laneC 0 0 0 0 none 0 0 1 0 2) 127) := by
  go_enter Try.func25, Try.ntmps25
  go_wp2
  go_ret2
  exact ⟨rfl, rfl⟩

/-- a ledger's cells: what is live, how much is used, each client's last, who holds, the operations, the lost ones, the fence, what is settled, the quota, the room -/
@[reducible] def ledC (m1 : Value) (used : Int) (m2 : Value) (hE hS : Int) (pA : Option Addr) (pn pc : Nat) (lA : Option Addr) (ln lc : Nat) (fence settled quota room : Int) : Array Value :=
  #[m1, .int .i64 used, m2, .int .i64 hE, .int .i64 hS, .slice pA pn pc, .slice lA ln lc, .int .i64 fence, .int .i64 settled, .int .i64 quota, .int .i64 room]

theorem fresh_any (w : World) : Calls Try.prog 40 #[] w fun x w' => ∃ m1 m2, x = .returned (.agg #[.map m1, .int .i64 0, .map m2, .int .i64 0, .int .i64 0]) ∧ Below w.heap.size w w' := by
  go_enter Try.func40, Try.ntmps40
  go_wp2
  rw [run_makeMap_plain]
  go_wp2
  rw [run_makeMap_plain]
  go_wp2
  refine bodyPost_ret (v := .agg #[.map (some (w.heap.size + 1)), .int .i64 0, .map (some (w.heap.size + 1 + 1)), .int .i64 0, .int .i64 0]) (by simp [results, Try.results40, go_sem]) rfl ?_
  exact ⟨_, _, rfl, (((Below.refl _ _).alloc (Nat.le_refl _) _).alloc (by simp) _).alloc (by simp; omega) _⟩

/-- the ledger of what is asked first -/
def LedAt (W : World) (g : Nat) (fence : Int) : Prop := ∃ m1 m2, Blk W g 98 (ledC (.map m1) 0 (.map m2) 0 0 none 0 0 none 0 0 fence 0 100 9)
theorem LedAt.below {W W' : World} {g B : Nat} {f : Int} (h : LedAt W g f) (hb : Below B W W') (hg : g < B) : LedAt W' g f := by
  obtain ⟨m1, m2, h⟩ := h
  exact ⟨m1, m2, h.below hb hg⟩
theorem LedAt.lt {W : World} {g : Nat} {f : Int} (h : LedAt W g f) : g < W.heap.size := by
  obtain ⟨m1, m2, h⟩ := h
  exact h.lt

theorem ledger_aw (w : World) : Calls Try.prog 8 #[.int .i64 100, .int .i64 9] w fun x w' => ∃ g, x = .returned (.tuple #[.pointer (some ⟨g, 0, none⟩), .int .i64 0]) ∧ LedAt w' g 0 ∧ w.heap.size ≤ g ∧ Below w.heap.size w w' := by
  go_enter Try.func8, Try.ntmps8
  go_wp2_with fail
  refine (fresh_any _).mono ?_
  rintro x w1 ⟨m1, m2, rfl, hb1⟩
  have HB := Lib.hid hb1
  clear hb1
  go_wp2
  go_ret2
  exact ⟨_, rfl, ⟨m1, m2, Blk.new w1 _ _⟩, HB.out.size, HB.out.alloc HB.out.size _⟩

theorem holder_aw (g : Nat) (f : Int) (w : World) (h : LedAt w g f) : Calls Try.prog 53 #[.pointer (some ⟨g, 0, none⟩)] w fun x w' => x = .returned (.agg #[.int .i64 0, .int .i64 0]) ∧ Below w.heap.size w w' := by
  obtain ⟨m1, m2, h⟩ := h
  have hk := fun o => h.alloc o
  have HK := Lib.hid hk
  have hg := h.lt
  have c3 := (h.alloc (.cells #[.int .i64 0, .int .i64 0] 93)).cell 3
  have c4 := (h.alloc (.cells #[.int .i64 0, .int .i64 0] 93)).cell 4
  simp at c3 c4
  clear h hk
  go_enter Try.func53, Try.ntmps53
  go_wp2
  refine bodyPost_ret (v := .agg #[.int .i64 0, .int .i64 0]) (by simp [results, Try.results53, go_sem]) rfl ?_
  exact ⟨rfl, (Below.refl _ _).alloc (Nat.le_refl _) _⟩

theorem fence_aw (g : Nat) (f : Int) (w : World) (h : LedAt w g f) : Calls Try.prog 24 #[.pointer (some ⟨g, 0, none⟩)] w fun x w' => x = .returned (.int .i64 f) ∧ w' = w := by
  obtain ⟨m1, m2, h⟩ := h
  have c7 := h.cell 7
  simp at c7
  clear h
  go_enter Try.func24, Try.ntmps24
  go_wp2
  go_ret
  exact ⟨rfl, rfl⟩

theorem cloneOps_nil (w : World) : Calls Try.prog 98 #[.slice none 0 0] w fun x w' => x = .returned (.slice none 0 0) ∧ w' = w := by
  go_enter Try.func98, Try.ntmps98
  have q : ∀ (w : World), (binOp .eql 28 (.slice none 0 0) (.slice none 0 0)).run Try.prog w = .ok (.bool true) w := fun w => Lib.run_eql_slice_nil w _ _ none 0 0 0 0 Try.underlying28
  go_wp2
  go_ret
  exact ⟨rfl, rfl⟩

theorem ownLed_nil (w : World) : Calls Try.prog 72 #[.slice none 0 0] w fun x w' => x = .returned (.slice none 0 0) ∧ w' = w := by
  go_enter Try.func72, Try.ntmps72
  go_wp2_with fail
  refine (cloneOps_nil _).mono ?_
  rintro x w1 ⟨rfl, rfl⟩
  go_wp2_with fail
  go_loopw [9] (fun i wr => i = .int .i64 0 ∧ wr = w1) (fun _ _ => 0)
  case atStart => exact ⟨rfl, rfl⟩
  case round =>
    obtain ⟨rfl, rfl⟩ := hrel
    go_wp2
    go_ret
    exact ⟨rfl, rfl⟩

theorem ops_aw (g : Nat) (f : Int) (w : World) (h : LedAt w g f) : Calls Try.prog 22 #[.pointer (some ⟨g, 0, none⟩)] w fun x w' => x = .returned (.slice none 0 0) ∧ w' = w := by
  obtain ⟨m1, m2, h⟩ := h
  have c5 := h.cell 5
  simp at c5
  clear h
  go_enter Try.func22, Try.ntmps22
  go_wp2_with fail
  refine (ownLed_nil _).mono ?_
  rintro x w1 ⟨rfl, rfl⟩
  go_wp2
  go_ret
  exact ⟨rfl, rfl⟩

theorem hasLed_aw (g : Nat) (f : Int) (w : World) (h : LedAt w g f) : Calls Try.prog 88 #[.pointer (some ⟨g, 0, none⟩), .agg #[.int .i64 2, .int .i64 1]] w fun x w' => x = .returned (.bool false) ∧ Below w.heap.size w w' := by
  obtain ⟨m1, m2, h⟩ := h
  have hg := h.lt
  have c5 := (h.alloc (.cells #[.int .i64 2, .int .i64 1] 26)).cell 5
  simp at c5
  clear h
  go_enter Try.func88, Try.ntmps88
  go_wp2_with fail
  go_quiet (fail)
  go_wp2
  go_ret
  exact ⟨rfl, below_drewN ((Below.refl _ _).alloc (Nat.le_refl _) _) _⟩

theorem failed_any (e : Int) (w : World) : Calls Try.prog 41 #[.int .i64 e] w fun x w' => x = .returned (.agg #[.int .i64 e, .int .i64 0, .int .i64 0]) ∧ Below w.heap.size w w' := by
  go_enter Try.func41, Try.ntmps41
  go_wp2
  refine bodyPost_ret (v := .agg #[.int .i64 e, .int .i64 0, .int .i64 0]) (by simp [results, Try.results41, go_sem]) rfl ?_
  exact ⟨rfl, (Below.refl _ _).alloc (Nat.le_refl _) _⟩
end Go.Proofs.Ytaipgdhdfpemcaa
