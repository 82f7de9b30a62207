/-
  THE WALKS OF THE LANE: what the seam's upTo, Hint, Next and the reference's Hint, Next compute. (As at the Seam's seat, without that law's own.)
-/
import Derived.Test.YtaipgdhdfpemcaaRows
import Derived.Test.YtaipgdhdfpemcaaMem
import Derived.Test.YtaipgdhdfpemcaaApp
import Derived.Test.YtaipgdhdfpemcaaOpen
import Derived.Test.YtaipgdhdfpemcaaSeamPlain
import Derived.WalkKit
import Derived.WalkSpells
import Derived.WalkLawsBesides
import Derived.Lib.Hide
import Derived.Deep.QuietTactic
import Derived.BigQuiet
import Derived.Deep.DeepCutAuto
namespace Go.Proofs.Ytaipgdhdfpemcaa
open Go.RowKit

/-- an element's cell, in the walk's spelling -/
theorem int_at {w : World} {B n : Nat} {A : Option Addr} {l : List Int} (h : Reads w B 1 A n (intV .i64 l)) {k : Nat} (hk : k < n) : ∃ ad, A = some ad ∧ w.cell? (ad.add k) = some (.int .i64 (l.getD k 0)) := by
  obtain ⟨ad, u, hA, _, hu, hc⟩ := h.at_ hk
  have hl : k < l.length := by have := h.1; simp [intV] at this; omega
  rw [intV_at .i64 l k hl] at hu
  injection hu with hu
  refine ⟨ad, hA, ?_⟩
  rw [hc, ← hu]
  simp [List.getD, hl]
theorem ints_len {w : World} {B n : Nat} {A : Option Addr} {l : List Int} (h : Reads w B 1 A n (intV .i64 l)) : l.length = n := by
  have := h.1
  simpa [intV] using this

theorem Try.infoInt : (Try.prog.info? 3).map (fun i => (i.zero, i.size, i.bytes)) = some (some (.int .i64 0), 1, 8) := by kernel_rfl
theorem intV_one (l : List Int) : ∀ u ∈ intV .i64 l, u.oneCell' = true := by
  intro u hu
  simp only [intV, List.mem_map] at hu
  obtain ⟨s, _, rfl⟩ := hu
  rfl

set_option maxHeartbeats 400000 in
theorem upTo_any (B : Nat) (A : Option Addr) (n c : Nat) (l : List Int) (w : World) (h : Reads w B 1 A n (intV .i64 l)) (hn : n ≤ maxLen) (m e : Int) (_hm : -9223372036854775808 ≤ m ∧ m ≤ 9223372036854775807) :
    Calls Try.prog 96 #[.slice A n c, .int .i64 m, .int .i64 e] w fun x w' => x = .returned (.int .i64 (Seam.upTo l m e)) ∧ w = w' := by
  have hlen := ints_len h
  have HR := Lib.hid h
  have HL := Lib.hid hlen
  clear h hlen
  unfold maxLen at hn
  obtain ⟨k0, hk0⟩ : ∃ k0 : Nat, k0 = (min m n).toNat := ⟨_, rfl⟩
  have hk0n : k0 ≤ n := by omega
  have hk0m : (k0 : Int) = max (min m n) 0 := by omega
  have HK0 := Lib.hid hk0
  have HM := Lib.hid hk0m
  clear hk0 hk0m
  go_enter Try.func96, Try.ntmps96
  go_upto_region 1 with fail
  go_cut [1] (fun s1 wx => s1 = .int .i64 k0 ∧ w = wx)
  case first =>
    have hk0m := HM.out
    go_wp2
    all_goals (go_meet; exact ⟨by first | rfl | (congr 1; omega), rfl⟩)
  case rest =>
  obtain ⟨rfl, rfl⟩ := hcut
  go_wp2
  go_loop [1] (fun i => ∃ k : Nat, k ≤ n ∧ i = .int .i64 k ∧ Seam.lastUp (Seam.upB l e) k = Seam.lastUp (Seam.upB l e) k0) (fun i => (intOf i).toNat)
  case atStart => exact ⟨k0, hk0n, rfl, rfl⟩
  case round =>
    obtain ⟨k, hk, rfl, hrl⟩ := hrel
    have hup : Seam.upTo l m e = Seam.lastUp (Seam.upB l e) k := by
      unfold Seam.upTo
      rw [HL.out, ← HK0.out, hrl]
    have HRL := Lib.hid hrl
    have HUP := Lib.hid hup
    clear hrl hup
    by_cases hz : k = 0
    · subst hz
      go_wp2
      go_ret
      exact ⟨ret_int (by rw [HUP.out]; rfl), rfl⟩
    · obtain ⟨j, rfl⟩ : ∃ j, k = j + 1 := ⟨k - 1, by omega⟩
      obtain ⟨ad, hA, hcell⟩ := int_at HR.out (show j < n by omega)
      obtain ⟨x, hx⟩ : ∃ x, x = l.getD j 0 := ⟨_, rfl⟩
      rw [← hx] at hcell
      have HX := Lib.hid hx
      clear hx
      subst hA
      by_cases hxe : e < x
      · go_wp2
        go_round
        case rel => exact ⟨j, by omega, rfl, by rw [← HRL.out, Seam.lastUp_succ, if_neg (by rw [Seam.upB_iff, Nat.add_sub_cancel, ← HX.out]; omega)]⟩
        case measure => simp [intOf]
      · go_wp2
        go_ret
        have hup : Seam.upTo l m e = j + 1 := by rw [HUP.out, Seam.lastUp_succ, if_pos (by rw [Seam.upB_iff, Nat.add_sub_cancel, ← HX.out]; omega)]
        exact ⟨ret_int (by rw [hup]; omega), rfl⟩


/-- a place as a value -/
def spotV (n : Nat) (e : Int) : Value := .agg #[.int .i64 n, .int .i64 e]

set_option maxHeartbeats 800000 in
/-- seam.Hint -/
theorem hint_any (A : Option Addr) (n c : Nat) (l : List Int) (w : World) (h : Reads w w.heap.size 1 A n (intV .i64 l)) (hn : n ≤ maxLen) (after since : Int) (_ha : -9223372036854775808 ≤ after ∧ after ≤ 9223372036854775807) :
    Calls Try.prog 55 #[.slice A n c, .int .i64 after, .int .i64 since] w fun x w' => x = .returned (spotV (Seam.hintN l after since) (Seam.ep l (Seam.hintN l after since))) ∧ Below w.heap.size w w' := by
  have hlen := ints_len h
  have HR := Lib.hid h
  have HL := Lib.hid hlen
  have HN := Lib.hid hn
  clear h hlen hn
  by_cases h0 : after ≤ 0
  · have hz : Seam.hintN l after since = 0 := by unfold Seam.hintN; rw [if_pos h0]
    rw [hz]
    go_enter Try.func55, Try.ntmps55
    go_wp2
    exact bodyPost_ret (v := spotV 0 0) (by simp [results, Try.results55, go_sem, spotV]) rfl ⟨rfl, ((Below.refl _ _).alloc (Nat.le_refl _) _)⟩
  · have hz : Seam.hintN l after since = Seam.upTo l (after - 1) since := by unfold Seam.hintN; rw [if_neg h0]
    rw [hz]
    obtain ⟨K, hK⟩ : ∃ K, K = Seam.upTo l (after - 1) since := ⟨_, rfl⟩
    have hKn : K ≤ n := by rw [hK, ← HL.out]; exact (Seam.upTo_le _ _ _).2
    rw [← hK]
    have HU : ∀ W, Below w.heap.size w W → Calls Try.prog 96 #[.slice A n c, .int .i64 (after - 1), .int .i64 since] W fun x w' => x = .returned (.int .i64 K) ∧ W = w' := fun W hW => by
      rw [hK]
      exact upTo_any _ A n c l W (HR.out.below hW) HN.out (after - 1) since (by omega)
    have HU' := Lib.hid HU
    clear HU hK hz
    by_cases hk : K = 0
    · subst hk
      go_enter Try.func55, Try.ntmps55
      go_wp2_with fail
      refine (HU'.out _ ((Below.refl _ _).alloc (Nat.le_refl _) _)).mono ?_
      rintro x w1 ⟨rfl, rfl⟩
      go_wp2
      exact bodyPost_ret (v := spotV 0 0) (by simp [results, Try.results55, go_sem, spotV]) rfl ⟨rfl, ((Below.refl _ _).alloc (Nat.le_refl _) _)⟩
    · obtain ⟨j, rfl⟩ : ∃ j, K = j + 1 := ⟨K - 1, by omega⟩
      obtain ⟨ad, hA, hcell⟩ := int_at HR.out (show j < n by omega)
      have hblk := block_lt hcell
      rw [block_of_add] at hblk
      have hep : Seam.ep l (j + 1) = l.getD j 0 := by unfold Seam.ep; rw [if_neg (by omega), Nat.add_sub_cancel]
      rw [hep]
      obtain ⟨x, hx⟩ : ∃ x, x = l.getD j 0 := ⟨_, rfl⟩
      rw [← hx] at hcell ⊢
      clear hx hep
      subst hA
      have hc2 : ∀ o, (w.alloc o).cell? (ad.add j) = some (.int .i64 x) := fun o => (World.cell?_alloc_lt w o _ (by rw [block_of_add]; exact hblk)).trans hcell
      clear hcell
      have hn := HN.out
      unfold maxLen at hn
      go_enter Try.func55, Try.ntmps55
      go_wp2_with fail
      refine (HU'.out _ ((Below.refl _ _).alloc (Nat.le_refl _) _)).mono ?_
      rintro x w1 ⟨rfl, rfl⟩
      go_wp2
      exact bodyPost_ret (v := spotV (j + 1) x) (by simp [results, Try.results55, go_sem, spotV]) rfl ⟨rfl, ((Below.refl _ _).alloc (Nat.le_refl _) _)⟩


set_option maxHeartbeats 800000 in
/-- seam.Next -/
theorem next_any (A : Option Addr) (n c : Nat) (l : List Int) (w : World) (h : Reads w w.heap.size 1 A n (intV .i64 l)) (hn : n ≤ maxLen) (m e : Int) (hm : -9223372036854775808 ≤ m ∧ m ≤ 9223372036854775807) :
    Calls Try.prog 79 #[.slice A n c, .agg #[.int .i64 m, .int .i64 e]] w fun x w' => x = .returned (.int .i64 (Seam.upTo l m e)) ∧ Below w.heap.size w w' := by
  have HU : ∀ W, Below w.heap.size w W → Calls Try.prog 96 #[.slice A n c, .int .i64 m, .int .i64 e] W fun x w' => x = .returned (.int .i64 (Seam.upTo l m e)) ∧ W = w' := fun W hW =>
    upTo_any _ A n c l W (h.below hW) hn m e hm
  have HU' := Lib.hid HU
  clear HU h hn hm
  go_enter Try.func79, Try.ntmps79
  go_wp2_with fail
  refine (HU'.out _ ((Below.refl _ _).alloc (Nat.le_refl _) _)).mono ?_
  rintro x w1 ⟨rfl, rfl⟩
  go_wp2
  go_ret
  exact ⟨rfl, ((Below.refl _ _).alloc (Nat.le_refl _) _)⟩

set_option maxHeartbeats 800000 in
/-- the reference's Next -/
theorem refNext_any (A : Option Addr) (n c : Nat) (l : List Int) (w : World) (h : Reads w w.heap.size 1 A n (intV .i64 l)) (hn : n ≤ 4294967296) (m e : Int) :
    Calls Try.prog 81 #[.slice A n c, .agg #[.int .i64 m, .int .i64 e]] w fun x w' => x = .returned (.int .i64 (Seam.upTo l m e)) ∧ Below w.heap.size w w' := by
  rw [← Seam.next_eq]
  have hlen := ints_len h
  have HR := Lib.hid h
  have HL := Lib.hid hlen
  clear h hlen
  go_enter Try.func81, Try.ntmps81
  go_wp2
  go_loopw [5, 6] (fun b i wr => ∃ k : Nat, k ≤ n ∧ i = .int .i64 ((k : Int) + 1) ∧ b = .int .i64 (Seam.lastUp (Seam.refNextB l m e) k) ∧ wr.cell? ⟨w.heap.size, 0, none⟩ = some (.int .i64 m) ∧ wr.cell? ⟨w.heap.size, 1, none⟩ = some (.int .i64 e) ∧ Below w.heap.size w wr) (fun _ i _ => n + 1 - (intOf i).toNat)
  case atStart => exact ⟨0, Nat.zero_le _, rfl, rfl, by simp [World.cell?_alloc_new], by simp [World.cell?_alloc_new], (Below.refl _ _).alloc (Nat.le_refl _) _⟩
  case round =>
    obtain ⟨k, hk, rfl, rfl, hc0, hc1, hbw⟩ := hrel
    by_cases hlt : k < n
    · obtain ⟨ad, hA, hcell⟩ := int_at (HR.out.below hbw) hlt
      obtain ⟨x, hx⟩ : ∃ x, x = l.getD k 0 := ⟨_, rfl⟩
      rw [← hx] at hcell
      have HX := Lib.hid hx
      clear hx
      subst hA
      have hsucc := Seam.lastUp_succ (Seam.refNextB l m e) k
      have hB : Seam.refNextB l m e (k + 1) = (decide ((k : Int) + 1 ≤ m) && decide (x ≤ e)) := by
        rw [HX.out]
        simp [Seam.refNextB, Seam.upB]
      have HS := Lib.hid hsucc
      have HB := Lib.hid hB
      clear hsucc hB
      by_cases h1 : (k : Int) + 1 ≤ m
      · have d1 : decide ((k : Int) + 1 ≤ m) = true := by simpa using h1
        by_cases h2 : x ≤ e
        · have d2 : decide (x ≤ e) = true := by simpa using h2
          have hr : Seam.lastUp (Seam.refNextB l m e) (k + 1) = k + 1 := by rw [HS.out, HB.out, d1, d2]; rfl
          have HRR := Lib.hid hr
          clear hr
          go_wp2_with fail
          go_quiet (fail)
          go_wp2
          go_roundw
          case rel => exact ⟨k + 1, by omega, by go_num, by rw [HRR.out]; go_num, hc0, hc1, below_drewN hbw _⟩
          case measure => simp [intOf]; omega
        · have d2 : decide (x ≤ e) = false := by simpa using h2
          have hr : Seam.lastUp (Seam.refNextB l m e) (k + 1) = Seam.lastUp (Seam.refNextB l m e) k := by rw [HS.out, HB.out, d1, d2]; rfl
          have HRR := Lib.hid hr
          clear hr
          go_wp2_with fail
          go_quiet (fail)
          go_wp2
          go_roundw
          case rel => exact ⟨k + 1, by omega, by go_num, by rw [HRR.out], hc0, hc1, below_drewN hbw _⟩
          case measure => simp [intOf]; omega
      · have d1 : decide ((k : Int) + 1 ≤ m) = false := by simpa using h1
        have hr : Seam.lastUp (Seam.refNextB l m e) (k + 1) = Seam.lastUp (Seam.refNextB l m e) k := by rw [HS.out, HB.out, d1]; rfl
        have HRR := Lib.hid hr
        clear hr
        go_wp2_with fail
        go_quiet (fail)
        go_wp2
        go_roundw
        case rel => exact ⟨k + 1, by omega, by go_num, by rw [HRR.out], hc0, hc1, below_drewN hbw _⟩
        case measure => simp [intOf]; omega
    · obtain rfl : k = n := by omega
      go_wp2
      go_ret
      exact ⟨ret_int (by rw [HL.out]), hbw⟩


set_option maxHeartbeats 1600000 in
/-- the reference's Hint -/
theorem refHint_any (A : Option Addr) (n c : Nat) (l : List Int) (w : World) (h : Reads w w.heap.size 1 A n (intV .i64 l)) (hn : n ≤ 4294967296) (after since : Int) :
    Calls Try.prog 66 #[.slice A n c, .int .i64 after, .int .i64 since] w fun x w' => x = .returned (spotV (Seam.hintN l after since) (Seam.ep l (Seam.hintN l after since))) ∧ Below w.heap.size w w' := by
  rw [← Seam.hint_eq]
  have hlen := ints_len h
  have HR := Lib.hid h
  have HL := Lib.hid hlen
  clear h hlen
  go_enter Try.func66, Try.ntmps66
  go_wp2
  go_loopw [8] (fun i wr => ∃ k : Nat, k ≤ n ∧ i = .int .i64 ((k : Int) + 1) ∧ Blk wr (w.heap.size + 1) 26 #[.int .i64 (Seam.lastUp (Seam.refHintB l after since) k), .int .i64 (Seam.ep l (Seam.lastUp (Seam.refHintB l after since) k))] ∧ Blk wr w.heap.size 26 #[.int .i64 0, .int .i64 0] ∧ Below w.heap.size w wr) (fun i _ => n + 1 - (intOf i).toNat)
  case atStart =>
    refine ⟨0, Nat.zero_le _, rfl, ?_, (Blk.new w _ _).alloc _, ((Below.refl _ _).alloc (Nat.le_refl _) _).alloc (by simp) _⟩
    have h := Blk.new (w.alloc (.cells #[.int .i64 0, .int .i64 0] 26)) 26 #[.int .i64 0, .int .i64 0]
    simpa [Seam.lastUp, Seam.ep] using h
  case round =>
    obtain ⟨k, hk, rfl, hb1, hb0, hbw⟩ := hrel
    have c10 := hb1.cell 0
    have c11 := hb1.cell 1
    have c00 := hb0.cell 0
    have c01 := hb0.cell 1
    have f10 := hb1.frozen 0
    have f11 := hb1.frozen 1
    have f00 := hb0.frozen 0
    have f01 := hb0.frozen 1
    obtain ⟨K, hK⟩ : ∃ K, K = Seam.lastUp (Seam.refHintB l after since) k := ⟨_, rfl⟩
    obtain ⟨E, hE⟩ : ∃ E, E = Seam.ep l K := ⟨_, rfl⟩
    rw [← hK, ← hE] at hb1 c10 c11
    have HK := Lib.hid hK
    have HE := Lib.hid hE
    have HB1 := Lib.hid hb1
    have HB0 := Lib.hid hb0
    clear hK hE hb1 hb0
    simp at c10 c11 c00 c01
    by_cases hlt : k < n
    · obtain ⟨ad, hA, hcell⟩ := int_at (HR.out.below hbw) hlt
      obtain ⟨x, hx⟩ : ∃ x, x = l.getD k 0 := ⟨_, rfl⟩
      rw [← hx] at hcell
      have HX := Lib.hid hx
      clear hx
      subst hA
      have hsucc := Seam.lastUp_succ (Seam.refHintB l after since) k
      have hB : Seam.refHintB l after since (k + 1) = (decide ((k : Int) + 1 < after) && decide (x ≤ since)) := by
        rw [HX.out]
        simp [Seam.refHintB, Seam.upB]
      have HS := Lib.hid hsucc
      have HB := Lib.hid hB
      clear hsucc hB
      by_cases h1 : (k : Int) + 1 < after
      · have d1 : decide ((k : Int) + 1 < after) = true := by simpa using h1
        by_cases h2 : x ≤ since
        · have d2 : decide (x ≤ since) = true := by simpa using h2
          have hr : Seam.lastUp (Seam.refHintB l after since) (k + 1) = k + 1 := by rw [HS.out, HB.out, d1, d2]; rfl
          have HRR := Lib.hid hr
          clear hr
          go_wp2
          go_roundw
          case rel =>
            refine ⟨k + 1, by omega, by go_num, ?_, HB0.out.far (by simp) _ |>.far (by simp) _, (hbw.setCell (by simp) _).setCell (by simp) _⟩
            rw [HRR.out]
            have he : Seam.ep l (k + 1) = x := by rw [HX.out]; simp [Seam.ep]
            rw [he]
            have h := (HB1.out.set_ 0 (.int .i64 ((k : Int) + 1))).set_ 1 (.int .i64 x)
            simpa using h
          case measure => simp [intOf]; omega
        · have d2 : decide (x ≤ since) = false := by simpa using h2
          have hr : Seam.lastUp (Seam.refHintB l after since) (k + 1) = K := by rw [HS.out, HB.out, d1, d2, HK.out]; rfl
          have HRR := Lib.hid hr
          clear hr
          go_wp2
          go_roundw
          case rel => exact ⟨k + 1, by omega, by go_num, by rw [HRR.out, ← HE.out]; exact HB1.out, HB0.out, hbw⟩
          case measure => simp [intOf]; omega
      · have d1 : decide ((k : Int) + 1 < after) = false := by simpa using h1
        have hr : Seam.lastUp (Seam.refHintB l after since) (k + 1) = K := by rw [HS.out, HB.out, d1, HK.out]; rfl
        have HRR := Lib.hid hr
        clear hr
        go_wp2
        go_roundw
        case rel => exact ⟨k + 1, by omega, by go_num, by rw [HRR.out, ← HE.out]; exact HB1.out, HB0.out, hbw⟩
        case measure => simp [intOf]; omega
    · obtain rfl : k = n := by omega
      go_wp2
      rw [HL.out, ← HK.out, ← HE.out]
      exact bodyPost_ret (v := spotV K E) (by simp [results, Try.results66, go_sem, spotV, c00, c01]) rfl ⟨rfl, (hbw.setCell (by simp) _).setCell (by simp) _⟩

end Go.Proofs.Ytaipgdhdfpemcaa
