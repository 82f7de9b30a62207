/-
  THE WALKS OF seam.Common AND THE REFERENCE's: up to where lists are one.
-/
import Derived.Test.YtbbmdiagfcidiaaSeamWalk
namespace Go.Proofs.Ytbbmdiagfcidiaa
open Go.RowKit

/-- a slice of lists that reads -/
def LReads (w : World) (B : Nat) (A : Option Addr) (n : Nat) (ls : List (List Int)) : Prop :=
  ls.length = n ∧ ∀ k, k < n → ∃ ad Ai ni ci, A = some ad ∧ ad.block < B ∧ w.cell? (ad.add k) = some (.slice Ai ni ci) ∧ Reads w B 1 Ai ni (intV .i64 (ls.getD k [])) ∧ ni ≤ 4294967296

theorem LReads.keep {w w' : World} {B : Nat} {A : Option Addr} {n : Nat} {ls : List (List Int)} (h : LReads w B A n ls) (hk : ∀ p : Addr, p.block < B → w'.cell? p = w.cell? p) : LReads w' B A n ls :=
  ⟨h.1, fun k hkn => by
    obtain ⟨ad, Ai, ni, ci, hA, hb, hc, hr, hn⟩ := h.2 k hkn
    exact ⟨ad, Ai, ni, ci, hA, hb, (hk _ (by rw [block_of_add]; exact hb)).trans hc, hr.keep hk, hn⟩⟩
theorem LReads.below {w w' : World} {B : Nat} {A : Option Addr} {n : Nat} {ls : List (List Int)} (h : LReads w B A n ls) (hb : Below B w w') : LReads w' B A n ls := h.keep fun _ hp => hb.cell hp
theorem LReads.more {w : World} {B B' : Nat} {A : Option Addr} {n : Nat} {ls : List (List Int)} (h : LReads w B A n ls) (hB : B ≤ B') : LReads w B' A n ls :=
  ⟨h.1, fun k hkn => by
    obtain ⟨ad, Ai, ni, ci, hA, hb, hc, hr, hn⟩ := h.2 k hkn
    exact ⟨ad, Ai, ni, ci, hA, by omega, hc, hr.more hB, hn⟩⟩
/-- the lists behind the first one -/
theorem LReads.tail {w : World} {B : Nat} {A : Option Addr} {n c : Nat} {ls : List (List Int)} (h : LReads w B A n ls) (h1 : 1 ≤ n) (hc : n ≤ c) {ad : Addr} (hA : A = some ad) :
    LReads w B (if c = 1 then some ad else some (ad.add 1)) (n - 1) (ls.drop 1) := by
  refine ⟨by rw [List.length_drop, h.1], fun k hk => ?_⟩
  obtain ⟨ad', Ai, ni, ci, hA', hb, hcl, hr, hn⟩ := h.2 (k + 1) (by omega)
  rw [hA] at hA'
  injection hA' with hA'
  subst hA'
  refine ⟨ad.add 1, Ai, ni, ci, by rw [if_neg (by omega)], by rw [block_of_add]; exact hb, by rw [add_of_add, Nat.add_comm]; exact hcl, ?_, hn⟩
  have e : (ls.drop 1).getD k [] = ls.getD (k + 1) [] := by simp [List.getD]
  rw [e]
  exact hr

/-- draws alone -/
def Drew (w w' : World) : Prop := ∃ d, w' = w.drewN d
theorem Drew.refl (w : World) : Drew w w := ⟨0, rfl⟩
theorem Drew.drewN {w w' : World} (h : Drew w w') (n : Nat) : Drew w (w'.drewN n) := by
  obtain ⟨d, rfl⟩ := h
  exact ⟨d + n, by rw [World.drewN_drewN]⟩
theorem Drew.drew {w w' : World} (h : Drew w w') : Drew w w'.drew := h.drewN 1
theorem Drew.trans {a b c : World} (h : Drew a b) (h' : Drew b c) : Drew a c := by
  obtain ⟨d, rfl⟩ := h'
  exact h.drewN d
theorem Drew.below {w w' : World} (h : Drew w w') (B : Nat) : Below B w w' := by
  obtain ⟨d, rfl⟩ := h
  exact below_drewN (Below.refl _ _) d
theorem Drew.cell {w w' : World} (h : Drew w w') (a : Addr) : w'.cell? a = w.cell? a := by
  obtain ⟨d, rfl⟩ := h
  rfl

/-! ### the plain law -/

/-- have all one epoch at a place? -/
def sameB (ls : List (List Int)) (j : Nat) : Bool := (ls.drop 1).all fun l => l.getD (j - 1) 0 == (ls.getD 0 []).getD (j - 1) 0
/-- .. and have they all such a place? -/
def allB (ls : List (List Int)) (j : Nat) : Bool := ls.all fun l => decide (j ≤ l.length) && (l.getD (j - 1) 0 == (ls.getD 0 []).getD (j - 1) 0)
/-- up to where lists are one -/
def commonL (ls : List (List Int)) : Nat := Seam.lastUp (allB ls) (ls.getD 0 []).length
/-- the shortest one's length -/
def minLen (ls : List (List Int)) : Nat := (ls.drop 1).foldl (fun m l => min m l.length) (ls.getD 0 []).length

theorem foldl_min_le (l : List (List Int)) (m : Nat) : l.foldl (fun m l => min m l.length) m ≤ m ∧ ∀ x ∈ l, l.foldl (fun m l => min m l.length) m ≤ x.length := by
  induction l generalizing m with
  | nil => exact ⟨Nat.le_refl _, fun x hx => by cases hx⟩
  | cons y l ih =>
    obtain ⟨h1, h2⟩ := ih (min m y.length)
    simp only [List.foldl_cons]
    refine ⟨by omega, fun x hx => ?_⟩
    rcases List.mem_cons.1 hx with rfl | hx
    · omega
    · exact h2 x hx
theorem foldl_min_ge (l : List (List Int)) (m k : Nat) (h0 : k ≤ m) (h : ∀ x ∈ l, k ≤ x.length) : k ≤ l.foldl (fun m l => min m l.length) m := by
  induction l generalizing m with
  | nil => exact h0
  | cons y l ih =>
    simp only [List.foldl_cons]
    have := h y (by simp)
    exact ih _ (by omega) fun x hx => h x (by simp [hx])
theorem minLen_le (ls : List (List Int)) : ∀ l ∈ ls, minLen ls ≤ l.length := by
  intro l hl
  unfold minLen
  rcases ls with _ | ⟨x, ls⟩
  · cases hl
  · rcases List.mem_cons.1 hl with rfl | hl
    · exact (foldl_min_le _ _).1
    · exact (foldl_min_le _ _).2 l (by simpa using hl)
theorem common_min (ls : List (List Int)) : Seam.lastUp (sameB ls) (minLen ls) = commonL ls := by
  unfold commonL
  rcases ls with _ | ⟨x, ls⟩
  · rfl
  · have hx : minLen (x :: ls) ≤ x.length := minLen_le _ x (by simp)
    refine (Seam.lastUp_min _ _ _ _ (by simpa using hx) (fun j h1 h2 => ?_) fun j h1 h2 => ?_).symm
    · unfold allB sameB
      simp only [List.drop_one, List.tail_cons, List.all_cons, List.getD_cons_zero]
      have hj : j ≤ x.length := by omega
      simp only [hj, decide_true, Bool.true_and, beq_self_eq_true]
      rw [Bool.eq_iff_iff, List.all_eq_true, List.all_eq_true]
      refine forall_congr' fun l => forall_congr' fun hl => ?_
      have : j ≤ l.length := by have := minLen_le (x :: ls) l (by simp [hl]); omega
      simp [this]
    · rw [Bool.eq_false_iff]
      intro h
      unfold allB at h
      rw [List.all_eq_true] at h
      have hge : j ≤ minLen (x :: ls) := by
        unfold minLen
        refine foldl_min_ge _ _ _ (by simpa using h2) fun y hy => ?_
        have := h y (by simp at hy; simp [hy])
        simp only [Bool.and_eq_true, decide_eq_true_eq] at this
        exact this.1
      omega

/-- the lists' cells, in the walk's spelling -/
theorem lists_at {w : World} {B : Nat} {A : Option Addr} {n : Nat} {ls : List (List Int)} (h : LReads w B A n ls) (k : Nat) (hk : k < n) :
    ∃ ad Ai ni ci, A = some ad ∧ w.cell? (ad.add k) = some (.slice Ai ni ci) ∧ Reads w B 1 Ai ni (intV .i64 (ls.getD k [])) ∧ (ls.getD k []).length = ni ∧ ni ≤ 4294967296 := by
  obtain ⟨ad, Ai, ni, ci, hA, _, hc, hr, hn⟩ := h.2 k hk
  exact ⟨ad, Ai, ni, ci, hA, hc, hr, ints_len hr, hn⟩

theorem ret_bool {a b : Bool} (h : a = b) : Ending.returned (.bool a) = .returned (.bool b) := by rw [h]
theorem same_snoc {ls : List (List Int)} {m k : Nat} {l : List Int} (h : (((ls.drop 1).take k).all fun l => l.getD (m - 1) 0 == (ls.getD 0 []).getD (m - 1) 0) = true) (hg : (ls.drop 1)[k]? = some l)
    (he : l.getD (m - 1) 0 = (ls.getD 0 []).getD (m - 1) 0) : (((ls.drop 1).take (k + 1)).all fun l => l.getD (m - 1) 0 == (ls.getD 0 []).getD (m - 1) 0) = true := by
  have e : (ls.drop 1).take (k + 1) = (ls.drop 1).take k ++ [l] := by
    obtain ⟨hk, hl⟩ := List.getElem?_eq_some_iff.1 hg
    rw [List.take_succ_eq_append_getElem hk, hl]
  rw [e, List.all_append, h]
  simp only [List.all_cons, List.all_nil, he, beq_self_eq_true, Bool.and_self]
theorem same_no {ls : List (List Int)} {m k : Nat} {l : List Int} (hg : (ls.drop 1)[k]? = some l) (he : ¬ l.getD (m - 1) 0 = (ls.getD 0 []).getD (m - 1) 0) : sameB ls m = false := by
  rw [Bool.eq_false_iff]
  intro h
  unfold sameB at h
  rw [List.all_eq_true] at h
  have := h l (List.mem_of_getElem? hg)
  exact he (by simpa using this)

set_option maxHeartbeats 800000 in
/-- seam.same, where all lists are long enough -/
theorem same_any (B m : Nat) (hm : 1 ≤ m) (A : Option Addr) (n c : Nat) (ls : List (List Int)) (w : World) (h : LReads w B A n ls) (h1 : 1 ≤ n) (hc : n ≤ c) (hc2 : c ≤ maxLen) (hl : ∀ k, k < n → m ≤ (ls.getD k []).length) :
    Calls Try.prog 16 #[.int .i64 m, .slice A n c] w fun e w' => e = .returned (.bool (sameB ls m)) ∧ Drew w w' := by
  obtain ⟨ad, A0, n0, c0, hA, hcell0, hr0, hl0, hn0⟩ := lists_at h 0 (by omega)
  have ht := h.tail h1 hc hA
  subst hA
  have hm0 := hl 0 (by omega)
  obtain ⟨ad0, hA0, hx0⟩ := int_at hr0 (show m - 1 < n0 by omega)
  subst hA0
  obtain ⟨x0, hxe⟩ : ∃ x0, x0 = (ls.getD 0 []).getD (m - 1) 0 := ⟨_, rfl⟩
  rw [← hxe] at hx0
  have hcell0' : w.cell? ad = some (.slice (some ad0) n0 c0) := by simpa [Addr.add] using hcell0
  unfold maxLen at hc2
  have HXE := Lib.hid hxe
  have HT := Lib.hid ht
  have HL := Lib.hid hl
  have HLL := Lib.hid h.1
  clear hxe ht hl hcell0 hr0 h
  have hm0 : m ≤ n0 := by omega
  have hsame0 : ∀ y : List Int, ls.length = 1 → sameB ls m = true := fun _ hls => by
    match ls, hls with
    | [a], _ => rfl
  by_cases hc1 : c = 1
  · obtain rfl : n = 1 := by omega
    have hs1 := hsame0 [] HLL.out
    rw [hs1]
    subst hc1
    clear hsame0
    go_enter Try.func16, Try.ntmps16
    go_wp2
    go_loop [10] (fun i => i = .int .i64 0) (fun _ => 0)
    case atStart => rfl
    case round =>
      obtain rfl := hrel
      go_wp2
      go_ret
      exact ⟨rfl, Drew.refl _⟩
  · rw [if_neg hc1] at HT
    obtain ⟨ad1, had1⟩ : ∃ ad1 : Addr, ad1 = ⟨ad.block, ad.off + 1, none⟩ := ⟨_, rfl⟩
    have had : ad.add 1 = ad1 := by rw [had1]; rfl
    rw [had] at HT
    have HAD := Lib.hid had1
    clear had1 had hsame0
    go_enter Try.func16, Try.ntmps16
    go_wp2
    rw [← HAD.out]
    go_loopw [10] (fun i wr => ∃ k : Nat, k ≤ n - 1 ∧ i = .int .i64 k ∧ Drew w wr ∧ (((ls.drop 1).take k).all fun l => l.getD (m - 1) 0 == (ls.getD 0 []).getD (m - 1) 0) = true) (fun i _ => n - 1 - (intOf i).toNat)
    case atStart => exact ⟨0, Nat.zero_le _, rfl, Drew.refl _, rfl⟩
    case round =>
      obtain ⟨k, hk, rfl, hwr, hall⟩ := hrel
      have HALL := Lib.hid hall
      have HWR := Lib.hid hwr
      clear hall hwr
      by_cases hlt : k < n - 1
      · obtain ⟨ad', A2, n2, c2, hA', hcell, hr, hln, hn2⟩ := lists_at HT.out k hlt
        injection hA' with hA'
        subst hA'
        have hmn : m ≤ n2 := by
          have := HL.out (k + 1) (by omega)
          have e : (ls.drop 1).getD k [] = ls.getD (k + 1) [] := by simp [List.getD]
          rw [e] at hln
          omega
        obtain ⟨ad2, hA2, hx2⟩ := int_at hr (show m - 1 < n2 by omega)
        subst hA2
        obtain ⟨x2, hx2e⟩ : ∃ x2, x2 = ((ls.drop 1).getD k []).getD (m - 1) 0 := ⟨_, rfl⟩
        rw [← hx2e] at hx2
        have hget : (ls.drop 1)[k]? = some ((ls.drop 1).getD k []) := by
          have : k < (ls.drop 1).length := by rw [List.length_drop, HLL.out]; exact hlt
          rw [List.getD, List.getElem?_eq_getElem this]
          rfl
        have HX2 := Lib.hid hx2e
        have HG := Lib.hid hget
        have hcw : wr.cell? (ad1.add k) = some (.slice (some ad2) n2 c2) := (HWR.out.cell _).trans hcell
        have hxw : wr.cell? (ad2.add (m - 1)) = some (.int .i64 x2) := (HWR.out.cell _).trans hx2
        have h0w : wr.cell? ad = some (.slice (some ad0) n0 c0) := (HWR.out.cell _).trans hcell0'
        have hyw : wr.cell? (ad0.add (m - 1)) = some (.int .i64 x0) := (HWR.out.cell _).trans hx0
        clear hr hln hcell hx2 hx2e hget
        go_wp2_with fail
        go_quiet (fail)
        by_cases hxx : x2 = x0
        · have hb : (x2 != x0) = false := by simp [hxx]
          have HXX := Lib.hid hxx
          clear hxx
          go_wp2
          go_roundw
          case rel => exact ⟨k + 1, by omega, by go_num, HWR.out.drewN _, same_snoc HALL.out HG.out (by rw [← HX2.out, ← HXE.out]; exact HXX.out)⟩
          case measure => simp [intOf]; omega
        · have hb : (x2 != x0) = true := by rw [bne_iff_ne]; exact hxx
          have hno : sameB ls m = false := same_no HG.out (by rw [← HX2.out, ← HXE.out]; exact hxx)
          have HNO := Lib.hid hno
          clear hno
          go_wp2
          go_ret
          exact ⟨ret_bool HNO.out.symm, HWR.out.drewN _⟩
      · obtain rfl : k = n - 1 := by omega
        have hyes : sameB ls m = true := by
          have h := HALL.out
          rw [List.take_of_length_le (by rw [List.length_drop, HLL.out]; omega)] at h
          exact h
        have HYES := Lib.hid hyes
        clear hyes
        go_wp2
        go_ret
        exact ⟨ret_bool HYES.out.symm, HWR.out⟩


set_option maxHeartbeats 1600000 in
/-- seam.Common, of one list or more -/
theorem common_some (A : Option Addr) (n c : Nat) (ls : List (List Int)) (w : World) (h : LReads w w.heap.size A n ls) (h1 : 1 ≤ n) (hc : n ≤ c) (hc2 : c ≤ maxLen) :
    Calls Try.prog 9 #[.slice A n c] w fun e w' => e = .returned (.int .i64 (commonL ls)) ∧ Drew w w' := by
  obtain ⟨ad, A0, n0, c0, hA, hcell0, hr0, hl0, hn0⟩ := lists_at h 0 (by omega)
  have ht := h.tail h1 hc hA
  have HSM : ∀ (m : Nat) (W : World), 1 ≤ m → m ≤ minLen ls → Drew w W → Calls Try.prog 16 #[.int .i64 m, .slice A n c] W fun e w' => e = .returned (.bool (sameB ls m)) ∧ Drew W w' := fun m W hm1 hm2 hW =>
    same_any w.heap.size m hm1 A n c ls W (h.below (hW.below _)) h1 hc hc2 fun k hk => Nat.le_trans hm2 (minLen_le ls _ (by
      have : k < ls.length := by rw [h.1]; exact hk
      rw [List.getD, List.getElem?_eq_getElem this]
      exact List.getElem_mem this))
  have HSM' := Lib.hid HSM
  subst hA
  have hcell0' : w.cell? ad = some (.slice A0 n0 c0) := by simpa [Addr.add] using hcell0
  unfold maxLen at hc2
  have HT := Lib.hid ht
  have HLL := Lib.hid h.1
  have HL0 := Lib.hid hl0
  have HCM := Lib.hid (common_min ls)
  have hnz : ((n : Int) == 0) = false := by simp; omega
  clear ht hcell0 hr0 h HSM hl0
  go_enter Try.func9, Try.ntmps9
  go_upto_region 4 with fail
  go_cut [14, 15, 16] (fun a b i wx => ∃ A', a = .slice A' (n - 1) (c - 1) ∧ LReads w w.heap.size A' (n - 1) (ls.drop 1) ∧ b = .int .i64 (n - 1 : Nat) ∧ i = .int .i64 0 ∧ w = wx)
  case first =>
    -- where there is but one list, the address of those behind it is of no account
    by_cases hc1 : c = 1
    · have HT' := HT.out
      rw [if_pos hc1] at HT'
      obtain rfl : n = 1 := by omega
      subst hc1
      have HT'' := Lib.hid HT'
      clear HT'
      go_wp2
      go_meet
      exact ⟨_, rfl, HT''.out, rfl, rfl, rfl⟩
    · have HT' := HT.out
      rw [if_neg hc1] at HT'
      have HT'' := Lib.hid HT'
      clear HT'
      go_wp2
      go_meet
      exact ⟨_, rfl, HT''.out, rfl, rfl, rfl⟩
  case rest =>
  obtain ⟨A', rfl, ht', rfl, rfl, rfl⟩ := hcut
  have HT' := Lib.hid ht'
  clear ht'
  go_wp2
  go_loop [3, 16] (fun v i => ∃ k : Nat, k ≤ n - 1 ∧ i = .int .i64 k ∧ v = .int .i64 (((ls.drop 1).take k).foldl (fun m l => min m l.length) n0 : Nat)) (fun _ i => n - 1 - (intOf i).toNat)
  case atStart => exact ⟨0, Nat.zero_le _, rfl, rfl⟩
  case round =>
    obtain ⟨k, hk, rfl, rfl⟩ := hrel
    obtain ⟨M, hM⟩ : ∃ M, M = ((ls.drop 1).take k).foldl (fun m l => min m l.length) n0 := ⟨_, rfl⟩
    rw [← hM]
    have HM := Lib.hid hM
    clear hM
    by_cases hlt : k < n - 1
    · obtain ⟨ad', A2, n2, c2, hA', hcell, hr, hln, hn2⟩ := lists_at HT'.out k hlt
      subst hA'
      have hmin : ((ls.drop 1).take (k + 1)).foldl (fun m l => min m l.length) n0 = min M n2 := by
        have : k < (ls.drop 1).length := by rw [List.length_drop, HLL.out]; exact hlt
        rw [List.take_succ_eq_append_getElem this, List.foldl_append, ← HM.out]
        simp only [List.foldl_cons, List.foldl_nil]
        rw [← hln, List.getD, List.getElem?_eq_getElem this]
        rfl
      have HMIN := Lib.hid hmin
      clear hr hln hmin
      by_cases hmn : M ≤ n2
      · go_wp2
        go_round
        case rel => exact ⟨k + 1, by omega, by go_num, by rw [HMIN.out, Nat.min_eq_left hmn]⟩
        case measure => simp [intOf]; omega
      · go_wp2
        go_round
        case rel => exact ⟨k + 1, by omega, by go_num, by rw [HMIN.out, Nat.min_eq_right (by omega)]⟩
        case measure => simp [intOf]; omega
    · obtain rfl : k = n - 1 := by omega
      have hml : M = minLen ls := by
        rw [HM.out, List.take_of_length_le (by rw [List.length_drop, HLL.out]; omega), ← HL0.out]
        rfl
      have hcm := HCM.out
      rw [← hml] at hcm
      have HCM2 := Lib.hid hcm
      have HML := Lib.hid hml
      clear hml hcm
      have hM63 : M ≤ 4294967296 := by
        have h := minLen_le ls
        rw [HML.out]
        have hm := (foldl_min_le (ls.drop 1) (ls.getD 0 []).length).1
        have : minLen ls ≤ (ls.getD 0 []).length := hm
        rw [HL0.out] at this
        omega
      have HSM'' := HSM'.out
      rw [← HML.out] at HSM''
      have HSAME := Lib.hid HSM''
      clear HSM''
      go_wp2
      go_loopw [3] (fun v wr => ∃ m : Nat, m ≤ M ∧ v = .int .i64 m ∧ Seam.lastUp (sameB ls) m = commonL ls ∧ Drew w wr) (fun v _ => (intOf v).toNat)
      case atStart => exact ⟨M, Nat.le_refl _, rfl, HCM2.out, Drew.refl _⟩
      case round =>
        obtain ⟨m, hm, rfl, hlu, hdr⟩ := hrel
        have HLU := Lib.hid hlu
        have HDR := Lib.hid hdr
        clear hlu hdr
        rcases Nat.eq_zero_or_pos m with hz | hp
        · subst hz
          go_wp2
          go_ret
          exact ⟨ret_int (by rw [← HLU.out]; rfl), HDR.out⟩
        · obtain ⟨j, rfl⟩ : ∃ j, m = j + 1 := ⟨m - 1, by omega⟩
          cases hsb : sameB ls (j + 1)
          · have hnext : Seam.lastUp (sameB ls) j = commonL ls := by
              rw [← HLU.out, Seam.lastUp_succ, hsb]; rfl
            have HSB := Lib.hid hsb
            have HNX := Lib.hid hnext
            clear hsb hnext
            go_wp2_with fail
            refine (HSAME.out (j + 1) wr (by omega) hm HDR.out).mono ?_
            rintro e w1 ⟨rfl, hw1⟩
            rw [HSB.out]
            have HW1 := Lib.hid hw1
            clear hw1
            go_wp2
            go_roundw
            case rel => exact ⟨j, by omega, rfl, HNX.out, HDR.out.trans HW1.out⟩
            case measure => simp [intOf]
          · have hnow : commonL ls = j + 1 := by
              rw [← HLU.out, Seam.lastUp_succ, hsb]; rfl
            have HSB := Lib.hid hsb
            have HNX := Lib.hid hnow
            clear hsb hnow
            go_wp2_with fail
            refine (HSAME.out (j + 1) wr (by omega) hm HDR.out).mono ?_
            rintro e w1 ⟨rfl, hw1⟩
            rw [HSB.out]
            have HW1 := Lib.hid hw1
            clear hw1
            go_wp2
            go_ret
            exact ⟨ret_int (by rw [HNX.out]; omega), HDR.out.trans HW1.out⟩

end Go.Proofs.Ytbbmdiagfcidiaa
