/-
  THE WALKS OF FRAMES: what is asked first.
-/
import Derived.Test.YtehhhclpeefnmaaFrRead
namespace Go.Proofs.Ytehhhclpeefnmaa
open Go.RowKit

/-- how much payloads are -/
def tot (ss : List ByteArray) : Nat := ss.foldr (fun s t => 1 + s.size + t) 0
theorem tot_snoc (ss : List ByteArray) (k : Nat) (h : k < ss.length) : tot (ss.take (k + 1)) = tot (ss.take k) + (1 + ss[k].size) := by
  rw [List.take_succ_eq_append_getElem h]
  induction ss.take k with
  | nil => simp [tot]
  | cons s l ih =>
    simp only [tot, List.cons_append, List.foldr_cons] at ih ⊢
    rw [ih]
    omega
theorem tot_mem (ss : List ByteArray) (s : ByteArray) (h : s ∈ ss) : 1 + s.size ≤ tot ss := by
  induction ss with
  | nil => cases h
  | cons a l ih =>
    simp only [tot, List.foldr_cons]
    rcases List.mem_cons.1 h with rfl | h
    · omega
    · have := ih h
      unfold tot at this
      omega
theorem tot_all (ss : List ByteArray) (h : ∀ s ∈ ss, s.size < 4611686018427387904) : (Fr.all (bytes ss)).length ≤ 13 * tot ss := by
  induction ss with
  | nil => simp [bytes, Fr.all]
  | cons a l ih =>
    have h1 := ih fun s hs => h s (List.mem_cons_of_mem _ hs)
    have h2 := h a (List.mem_cons_self ..)
    have h3 := Fr.enc_small (2 * a.data.toList.length) (by simp; omega)
    have h4 := Fr.one_len a.data.toList
    have h5 : a.data.toList.length = a.size := by simp
    simp only [bytes, List.map_cons, Fr.all, List.length_append, tot, List.foldr_cons] at h1 ⊢
    rw [h5] at h3 h4
    omega
/-- not many: so they can all be sealed -/
theorem few {ss : List ByteArray} (h : tot ss ≤ 8192) : sealable ss ∧ (Fr.all (bytes ss)).length ≤ 106496 := by
  refine ⟨fun s hs => ?_, ?_⟩
  · have := tot_mem ss s hs; omega
  · have := tot_all ss fun s hs => by have := tot_mem ss s hs; omega
    omega

set_option maxRecDepth 100000 in
set_option maxHeartbeats 1000000 in
theorem many_any (A : Option Addr) (n c : Nat) (ss : List ByteArray) (w : World) (h : Reads w w.heap.size 1 A n (strV ss)) (hn : n ≤ maxLen) :
    Calls Try.prog 10 #[.slice A n c] w fun e w' => w' = w ∧ (e = .returned (.bool true) ∨ e = .returned (.bool false) ∧ tot ss ≤ 8192) := by
  have hlen : ss.length = n := by have := h.1; simp [strV] at this; omega
  have HR := Lib.hid h
  have HL := Lib.hid hlen
  clear h hlen
  unfold maxLen at hn
  go_enter Try.func10, Try.ntmps10
  go_wp2_with fail
  go_loop [3, 8] (fun m i => ∃ k : Nat, k ≤ n ∧ i = .int .i64 k ∧ m = .int .i64 (tot (ss.take k)) ∧ tot (ss.take k) ≤ 8192) (fun _ i => n - (intOf i).toNat)
  case atStart => exact ⟨0, by omega, rfl, by simp [tot], by simp [tot]⟩
  case round =>
    obtain ⟨k, hk, rfl, rfl, hm⟩ := hrel
    obtain ⟨T, hT⟩ : ∃ T, T = tot (ss.take k) := ⟨_, rfl⟩
    rw [← hT] at hm ⊢
    have HT := Lib.hid hT
    clear hT
    by_cases hkn : k < n
    · obtain ⟨ad, u, rfl, hadb, hu, hcl⟩ := HR.out.at_ hkn
      have hks : k < ss.length := by rw [HL.out]; exact hkn
      rw [strV_at ss k hks] at hu
      injection hu with hu
      subst hu
      obtain ⟨s, hs⟩ : ∃ s, s = ss[k] := ⟨_, rfl⟩
      rw [← hs] at hcl
      have hsn := tot_snoc ss k hks
      rw [← hs, ← HT.out] at hsn
      have HSN := Lib.hid hsn
      clear hs hsn
      by_cases hbig : 8192 < T + (1 + s.size)
      · by_cases hmin : (s.size : Int) ≤ 1048576
        · go_wp2
          all_goals (go_ret; exact ⟨rfl, Or.inl rfl⟩)
        · have hb : (8192 : Int) < (T : Int) + 1048577 := by omega
          have hgt : (1048576 : Int) < s.size := by omega
          go_wp2
          all_goals (go_ret; exact ⟨rfl, Or.inl rfl⟩)
      · have hmin : (s.size : Int) ≤ 1048576 := by omega
        go_wp2
        all_goals
          go_round
          case rel => exact ⟨k + 1, by omega, by go_num, by rw [HSN.out]; go_num, by rw [HSN.out]; omega⟩
          case measure => simp [intOf]; omega
    · obtain rfl : n = k := by omega
      have hall : ss.take n = ss := List.take_of_length_le (by rw [HL.out]; exact Nat.le_refl _)
      rw [hall] at HT
      go_wp2
      go_ret
      exact ⟨rfl, Or.inr ⟨rfl, by rw [← HT.out]; exact hm⟩⟩


theorem aw_sum : Fr.le4 (Fr.sum [97, 98]) = [109, 72, 131, 158] := by kernel_rfl
theorem aw_sum0 : Fr.le4 (Fr.sum []) = [0, 0, 0, 0] := by kernel_rfl
theorem aw_one : Fr.one [97, 98] = [4, 109, 72, 131, 158, 97, 98] := by
  unfold Fr.one
  rw [aw_sum, Fr.enc_lt (by decide)]
  rfl
theorem aw_one0 : Fr.one [] = [0, 0, 0, 0, 0] := by
  unfold Fr.one
  rw [aw_sum0, Fr.enc_lt (by decide)]
  rfl
def awS : List UInt8 := [4, 109, 72, 131, 158, 97, 98, 0, 0, 0, 0, 0]
theorem aw_all : Fr.all (bytes [⟨#[97, 98]⟩, ⟨#[]⟩]) = awS := by
  show Fr.one [97, 98] ++ (Fr.one [] ++ []) = _
  rw [aw_one, aw_one0]
  rfl
theorem aw_open : Fr.openF awS = some ([97, 98], [0, 0, 0, 0, 0]) := by
  have h := Fr.open_one [97, 98] [0, 0, 0, 0, 0] (by decide)
  rw [aw_one] at h
  exact h
theorem aw_cut : Fr.openF [4, 109, 72, 131, 158, 97] = none := by
  have h := Fr.open_cut [97, 98] [0, 0, 0, 0, 0] (by decide) 6 (by rw [aw_one]; decide)
  rw [aw_one] at h
  exact h
theorem aw_seal (w : World) : Calls Try.prog 11 #[.slice (some ⟨w.heap.size, 0, none⟩) 2 2] (w.alloc (.cells #[.string ⟨#[97, 98]⟩, .string ⟨#[]⟩] 9)) fun e w' => e = .returned (.tuple #[.string ⟨#[4, 109, 72, 131, 158, 97, 98, 0, 0, 0, 0, 0]⟩, .int .i64 0]) ∧ Below w.heap.size w w' := by
  have hb : Below w.heap.size w (w.alloc (.cells #[.string ⟨#[97, 98]⟩, .string ⟨#[]⟩] 9)) := (Below.refl _ _).alloc (Nat.le_refl _) _
  have hr : Reads (w.alloc (.cells #[.string ⟨#[97, 98]⟩, .string ⟨#[]⟩] 9)) (w.alloc (.cells #[.string ⟨#[97, 98]⟩, .string ⟨#[]⟩] 9)).heap.size 1 (some ⟨w.heap.size, 0, none⟩) 2 (strV [⟨#[97, 98]⟩, ⟨#[]⟩]) := by
    refine ⟨rfl, fun _ => ⟨_, rfl, by simp, fun j u hu => ?_⟩⟩
    have e : (⟨w.heap.size, 0, none⟩ : Addr).add j = ⟨w.heap.size, j, none⟩ := by simp [Addr.add]; try exact fun h => h.symm
    rw [e, (Blk.new w _ _).cell j]
    simpa [strV] using hu
  refine (seal_any _ 2 2 [⟨#[97, 98]⟩, ⟨#[]⟩] _ hr (by unfold maxLen; omega) (by intro s hs; simp at hs; rcases hs with rfl | rfl <;> (unfold maxLen; decide)) (by rw [aw_all]; decide)).mono ?_
  rintro e w' ⟨hb2, h | h⟩
  · rw [aw_all] at h
    exact ⟨h.2, hb.trans (hb2.mono hb.size)⟩
  · exact absurd (fun s hs => by simp at hs; rcases hs with rfl | rfl <;> decide) h.1
theorem aw_open1 (w : World) : Calls Try.prog 13 #[.string ⟨#[4, 109, 72, 131, 158, 97, 98, 0, 0, 0, 0, 0]⟩] w fun e w' => e = .returned (.tuple #[.string ⟨#[97, 98]⟩, .string ⟨#[0, 0, 0, 0, 0]⟩, .int .i64 0]) ∧ Below w.heap.size w w' := by
  refine (open_any _ w (by decide)).mono ?_
  rintro e w' ⟨h, hb⟩
  refine ⟨?_, hb⟩
  unfold Opened at h
  rw [show (⟨#[4, 109, 72, 131, 158, 97, 98, 0, 0, 0, 0, 0]⟩ : ByteArray).data.toList = awS from rfl, aw_open] at h
  exact h
theorem aw_open2 (w : World) : Calls Try.prog 13 #[.string ⟨#[4, 109, 72, 131, 158, 97]⟩] w fun e w' => e = .returned (.tuple #[.string ⟨#[]⟩, .string ⟨#[]⟩, .int .i64 3]) ∧ Below w.heap.size w w' := by
  refine (open_any _ w (by decide)).mono ?_
  rintro e w' ⟨h, hb⟩
  refine ⟨?_, hb⟩
  unfold Opened at h
  rw [show (⟨#[4, 109, 72, 131, 158, 97]⟩ : ByteArray).data.toList = [4, 109, 72, 131, 158, 97] from rfl, aw_cut] at h
  exact h

set_option maxHeartbeats 1000000 in
theorem awake_any (w : World) :
    Calls Try.prog 9 #[] w fun e w' => e = .returned (.bool true) ∧ Below w.heap.size w w' := by
  go_enter Try.func9, Try.ntmps9
  go_wp2_with fail
  refine (aw_seal w).mono ?_
  rintro e w1 ⟨rfl, hb1⟩
  go_wp2_with fail
  refine (aw_open1 w1).mono ?_
  rintro e w2 ⟨rfl, hb2⟩
  go_wp2_with fail
  refine (aw_open2 w2).mono ?_
  rintro e w3 ⟨rfl, hb3⟩
  go_wp2_with fail
  go_ret
  have h12 := hb1.trans (hb2.mono hb1.size)
  exact ⟨rfl, h12.trans (hb3.mono h12.size)⟩


theorem Try.infoStr : (Try.prog.info? 9).map (fun i => (i.zero, i.size, i.bytes)) = some (some (.string ⟨#[]⟩), 1, 16) := by kernel_rfl
theorem tot_len (ss : List ByteArray) : ss.length ≤ tot ss := by
  induction ss with
  | nil => simp
  | cons a l ih => simp only [tot, List.foldr_cons, List.length_cons] at ih ⊢; omega

set_option maxHeartbeats 1000000 in
theorem frameSeals_walk (w : World) (A : Option Addr) (n c : Nat) (ss : List ByteArray) (h : Reads w w.heap.size 1 A n (strV ss)) (hn : n ≤ maxLen) (hm : ∀ s ∈ ss, s.size ≤ maxLen) :
    Calls Try.prog 3 #[.slice A n c] w fun e w' => e = .returned (.bool true) ∧ Below w.heap.size w w' := by
  have hlen : ss.length = n := by have := h.1; simp [strV] at this; omega
  have HR := Lib.hid h
  have HM := Lib.hid hm
  have HL := Lib.hid hlen
  have HN := Lib.hid hn
  clear h hlen hm hn
  obtain ⟨i0, hi0, hz0, hz1, hz2⟩ := info_parts Try.infoStr
  have HI := Lib.hid hi0
  have HZ0 := Lib.hid hz0
  have HZ1 := Lib.hid hz1
  have HZ2 := Lib.hid hz2
  clear hi0 hz0 hz1 hz2
  go_enter Try.func3, Try.ntmps3
  go_wp2_with fail
  refine (awake_any w).mono ?_
  rintro e w1 ⟨rfl, hb1⟩
  have HB1 := Lib.hid hb1
  clear hb1
  go_wp2_with fail
  refine (many_any A n c ss w1 ((HR.out.below HB1.out).more HB1.out.size) HN.out).mono ?_
  rintro e w2 ⟨rfl, rfl | ⟨rfl, htot⟩⟩
  · go_wp2_with fail
    refine (awake_any w2).mono ?_
    rintro e w3 ⟨rfl, hb2⟩
    go_wp2
    go_ret
    exact ⟨rfl, HB1.out.trans (hb2.mono HB1.out.size)⟩
  · have hn2 : n ≤ 8192 := by have := tot_len ss; rw [HL.out] at this; omega
    have hfew := few htot
    have HF := Lib.hid hfew
    have hr2 : Reads w2 w2.heap.size 1 A n (strV ss) := (HR.out.below HB1.out).more HB1.out.size
    have HR2 := Lib.hid hr2
    clear hfew htot hr2
    go_wp2_with (at_builtin; refine wpList_append_any _ rfl (.tmp 15) (.tmp 16) _ rfl w2.heap.size 9 i0 _ 1 16 Try.underlying22 HI.out HZ0.out HZ1.out HZ2.out rfl (by omega) (.slice (some ⟨w2.heap.size, 0, none⟩) 0 0) 0 [] rfl (own_empty w2 _ 1) w2.heap.size A n c (strV ss) rfl (HR2.out.alloc (Nat.le_refl _) _) (strV_one ss) ?c1 ?c2 ?c3 ?_)
    case c1 => unfold maxLen; omega
    case c2 => omega
    case c3 => simp
    intro v1 w3 hown hg hat
    try simp only [Nat.zero_add, List.nil_append] at hown
    have hb2 : Below w2.heap.size w2 w3 := ((Below.refl _ _).alloc (Nat.le_refl _) _).grown hg (by simp) (by intro k hk; simp [Value.ownBlock] at hk; omega)
    obtain ⟨g1, c1, rfl, hc1, hcm, hg1, hrd⟩ := own_some hown hat
    have HB2 := Lib.hid hb2
    have HD := Lib.hid hrd
    clear hown hg hat hrd hb2 hc1 hcm hg1
    go_wp2_with fail
    refine (seal_any _ n c1 ss w3 HD.out HN.out HM.out (by have := HF.out.2; omega)).mono ?_
    rintro e w4 ⟨hb4, h4⟩
    rcases h4 with ⟨_, rfl⟩ | ⟨h4, _⟩
    · have HB4 := Lib.hid hb4
      clear hb4
      have hr4 : Reads w4 w4.heap.size 1 A n (strV ss) := by
        have h1 := (HR2.out.below HB2.out).more HB2.out.size
        exact (h1.below HB4.out).more HB4.out.size
      have HR4 := Lib.hid hr4
      clear hr4
      go_wp2_with fail
      refine (refSeal_any A n c ss w4 HR4.out HN.out (by have := HF.out.2; omega)).mono ?_
      rintro e w5 ⟨hb5, h5⟩
      rcases h5 with ⟨_, rfl⟩ | ⟨h5, _⟩
      · have HB5 := Lib.hid hb5
        clear hb5
        go_wp2
        go_ret
        have s1 := HB1.out.size
        have s2 := HB2.out.size
        have s4 := HB4.out.size
        exact ⟨rfl, ((HB1.out.trans (HB2.out.mono s1)).trans (HB4.out.mono (by omega))).trans (HB5.out.mono (by omega))⟩
      · exact absurd HF.out.1 h5
    · exact absurd HF.out.1 h4

end Go.Proofs.Ytehhhclpeefnmaa
