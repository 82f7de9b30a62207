/-
  THE WALKS OF THE LANE: what a lane that is none, and no ledger, say.
-/
import Derived.Test.YtaipgdhdfpemcaaLaMeetNo
namespace Go.Proofs.Ytaipgdhdfpemcaa
open Go.RowKit

theorem holder_nil (w : World) : Calls Try.prog 53 #[.pointer none] w fun x w' => x = .returned (.agg #[.int .i64 0, .int .i64 0]) ∧ Below w.heap.size w w' := by
  go_enter Try.func53, Try.ntmps53
  go_wp2
  refine bodyPost_ret (v := .agg #[.int .i64 0, .int .i64 0]) (by simp [results, Try.results53, go_sem]) rfl ?_
  exact ⟨rfl, (Below.refl _ _).alloc (Nat.le_refl _) _⟩
theorem mark_nil (w : World) : Calls Try.prog 29 #[.pointer none] w fun x w' => x = .returned (.agg #[.int .i64 0, .int .i64 0]) ∧ Below w.heap.size w w' := by
  go_enter Try.func29, Try.ntmps29
  go_wp2
  refine bodyPost_ret (v := .agg #[.int .i64 0, .int .i64 0]) (by simp [results, Try.results29, go_sem]) rfl ?_
  exact ⟨rfl, (Below.refl _ _).alloc (Nat.le_refl _) _⟩
theorem whole_nil (w : World) : Calls Try.prog 32 #[.pointer none] w fun x w' => x = .returned (.agg #[.int .i64 0, .int .i64 0, .slice none 0 0]) ∧ Below w.heap.size w w' := by
  go_enter Try.func32, Try.ntmps32
  go_wp2
  refine bodyPost_ret (v := .agg #[.int .i64 0, .int .i64 0, .slice none 0 0]) (by simp [results, Try.results32, go_sem]) rfl ?_
  exact ⟨rfl, (Below.refl _ _).alloc (Nat.le_refl _) _⟩
theorem next_nil (w : World) : Calls Try.prog 33 #[.pointer none] w fun x w' => x = .returned (.int .i64 0) ∧ w' = w := by
  go_enter Try.func33, Try.ntmps33
  go_wp2
  go_ret
  exact ⟨rfl, rfl⟩
theorem copy_nil (w : World) : Calls Try.prog 39 #[.pointer none] w fun x w' => x = .returned (.pointer none) ∧ w' = w := by
  go_enter Try.func39, Try.ntmps39
  go_wp2
  go_ret
  exact ⟨rfl, rfl⟩
theorem take_nil (cells : Array Value) (v : Value) (w : World) : Calls Try.prog 28 #[.pointer none, .agg cells, v] w fun x w' => x = .returned (.int .i64 0) ∧ Below w.heap.size w w' := by
  go_enter Try.func28, Try.ntmps28
  go_wp2
  go_ret
  exact ⟨rfl, (Below.refl _ _).alloc (Nat.le_refl _) _⟩

@[reducible] noncomputable def offerF : Func := Try.f26
theorem offer_nil (v : Value) (w : World) : Calls Try.prog 26 #[.pointer none, v] w fun x w' => x = .returned (.agg noMail) ∧ Below w.heap.size w w' := by
  have hb := Blk.new w 30 noMail
  have hb2 := hb.setCells_ noMail.toList rfl
  have hbl : Below w.heap.size w ((w.alloc (.cells noMail 30)).setCells w.heap.size 0 noMail.toList) := below_setCells (Nat.le_refl _) ((Below.refl _ _).alloc (Nat.le_refl _) _) _ _
  have H1 := Lib.hid hb
  have H2 := Lib.hid hb2
  have H3 := Lib.hid hbl
  clear hb hb2 hbl
  go_enter Try.func26, Try.ntmps26
  conv => arg 2; arg 2; arg 1; arg 2; arg 2; change part [1, 0, 1, 0] (codeOf offerF)
  go_wp2_with fail
  refine wp_part (x := part [1, 0, 1, 0, 0] (codeOf offerF)) (y := part [1, 0, 1, 0, 1] (codeOf offerF)) (by kernel_rfl) ?_
  intro K hK
  conv => arg 2; whnf
  refine wp_region_lit ?_
  refine wpList_value' rfl (.agg noMail) (w.alloc (.cells noMail 30)) (by kernel_rfl) ?_
  refine wpList_store_mid rfl 30 (.tmp 4) (.tmp 8) rfl w.heap.size 0 noMail rfl rfl (H1.out.there_ 0 _ (Nat.le_refl _)) Try.sizeMail noMail_one ?_
  refine wpList_nil ?_
  refine hK _ _ ?_
  conv => arg 2; whnf
  refine wp_ret ?_
  simp only [Exit.then]
  refine bodyPost_ret (results_cell rfl rfl H2.out.range Try.underlying30 rfl Try.sizeMail) rfl ?_
  exact ⟨rfl, H3.out⟩

set_option maxRecDepth 100000 in
theorem meet_nil (cells : Array Value) (w : World) : Calls Try.prog 16 #[.pointer none, .agg cells, .agg #[.int .i64 0, .int .i64 0, .slice none 0 0]] w fun x w' => x = .returned (.tuple #[.agg noMail, .agg noCmd, .int .i64 0]) ∧ Below w.heap.size w w' := by
  have hb0 : Below w.heap.size w ((((w.alloc (.cells cells 30)).alloc (.cells #[.int .i64 0, .int .i64 0, .slice none 0 0] 32)).alloc (.cells noMail 30)).alloc (.cells noCmd 47)) := ((((Below.refl _ _).alloc (Nat.le_refl _) _).alloc (by simp) _).alloc (by simp; omega) _).alloc (by simp; omega) _
  have h6 : Blk ((((w.alloc (.cells cells 30)).alloc (.cells #[.int .i64 0, .int .i64 0, .slice none 0 0] 32)).alloc (.cells noMail 30)).alloc (.cells noCmd 47)) (w.heap.size + 1 + 1) 30 noMail := by
    have := (Blk.new ((w.alloc (.cells cells 30)).alloc (.cells #[.int .i64 0, .int .i64 0, .slice none 0 0] 32)) 30 noMail).alloc (.cells noCmd 47)
    simpa using this
  have h7 : Blk ((((w.alloc (.cells cells 30)).alloc (.cells #[.int .i64 0, .int .i64 0, .slice none 0 0] 32)).alloc (.cells noMail 30)).alloc (.cells noCmd 47)) (w.heap.size + 1 + 1 + 1) 47 noCmd := by
    have := Blk.new (((w.alloc (.cells cells 30)).alloc (.cells #[.int .i64 0, .int .i64 0, .slice none 0 0] 32)).alloc (.cells noMail 30)) 47 noCmd
    simpa using this
  have H0 := Lib.hid hb0
  have H6 := Lib.hid h6
  have H7 := Lib.hid h7
  clear hb0 h6 h7
  go_enter Try.func16, Try.ntmps16
  conv => arg 2; arg 2; arg 2; arg 1; arg 2; arg 2; change part [1, 1, 0, 1, 0] (codeOf meetF)
  go_wp2_with fail
  refine (holder_nil _).mono ?_
  rintro e w1 ⟨rfl, hb1⟩
  have h61 := H6.out.below hb1 H6.out.lt
  have h71 := H7.out.below hb1 H7.out.lt
  have hb2 : Below w.heap.size w (w1.alloc (.cells #[.int .i64 0, .int .i64 0] 93)) := (H0.out.trans (hb1.mono H0.out.size)).alloc (Nat.le_trans H0.out.size hb1.size) _
  have H61 := Lib.hid (h61.alloc (.cells #[.int .i64 0, .int .i64 0] 93))
  have H71 := Lib.hid (h71.alloc (.cells #[.int .i64 0, .int .i64 0] 93))
  have HB2 := Lib.hid hb2
  clear hb1 h61 h71 hb2
  go_wp2_with fail
  refine meet_none (fun x w' => x = .returned (.tuple #[.agg noMail, .agg noCmd, .int .i64 0]) ∧ Below w.heap.size w w') ?_ w.heap.size w _ _ (w.heap.size + 1 + 1) (w.heap.size + 1 + 1 + 1) ?_ H61.out H71.out (by omega) (by omega) (by omega) HB2.out ?_
  · exact fun _ _ h => h
  · exact ⟨rfl, rfl, rfl, rfl, trivial⟩
  · exact fun w' hb => ⟨rfl, hb⟩
end Go.Proofs.Ytaipgdhdfpemcaa
