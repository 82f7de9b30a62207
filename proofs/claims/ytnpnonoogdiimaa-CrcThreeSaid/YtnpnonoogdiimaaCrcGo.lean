/-
  THE WALK OF CrcGoes: a sum goes on over more bytes as if all had been there at once.
-/
import Derived.Test.YtnpnonoogdiimaaCrcLaw
import Derived.Deep.RegionWith
import Derived.Deep.DeepMust
namespace Go.Proofs.Ytnpnonoogdiimaa
open Go.RowKit

/-- '[]string{}' with parts behind it, cut at a place, read back -/
theorem cat_cut (ss : List ByteArray) (k : Nat) : cat (ss.take k) ++ cat (ss.drop k) = cat ss := by
  rw [← cat_append, List.take_append_drop]
theorem strV_take (ss : List ByteArray) (k : Nat) : (strV ss).take (k * 1) = strV (ss.take k) := by simp [strV, List.map_take]
theorem strV_drop (ss : List ByteArray) (k : Nat) : (strV ss).drop (k * 1) = strV (ss.drop k) := by simp [strV, List.map_drop]

/-- the sum of one text that lies in a new block, draws ahead or not -/
theorem crcSum_one (x : ByteArray) (a : Addr) (w : World) (c : Nat) (hx : x.size ≤ maxLen) (ha : w.cell? a = some (.string x)) :
    Calls Try.prog 9 #[.slice (some a) 1 c] w fun e w' => e = .returned (.int .u32 (Crc.more 0#32 x.data.toList).toNat) ∧ w = w' := by
  have h := crcSum_any (a.block + 1) (some a) 1 c [x] w ⟨rfl, fun _ => ⟨a, rfl, by omega, fun j u hu => by
    rcases j with _ | j
    · simp [strV] at hu
      subst hu
      simpa [Addr.add] using ha
    · simp [strV] at hu⟩⟩ (by unfold maxLen; omega) (by simpa using hx)
  simpa [cat] using h

/-- the place at which the list is cut -/
theorem cut_place (a : Int) (n : Nat) (hn : n ≤ 4294967296) : ∃ K : Nat, K ≤ n ∧ wrap64 ((IntKind.u64.wrap a).tmod ((n : Int) + 1)) = (K : Int) := by
  obtain ⟨z, hz⟩ : ∃ z, z = IntKind.u64.wrap a := ⟨_, rfl⟩
  have h0 : 0 ≤ z := by rw [hz]; exact wrap_u64_nonneg a
  rw [← hz, Int.tmod_eq_emod_of_nonneg h0]
  have h1 := Int.emod_nonneg z (show ((n : Int) + 1) ≠ 0 by omega)
  have h2 := Int.emod_lt_of_pos z (show (0 : Int) < (n : Int) + 1 by omega)
  refine ⟨(z % ((n : Int) + 1)).toNat, by omega, ?_⟩
  rw [IntWalk.wrap64_in _ (by omega)]
  omega

set_option maxHeartbeats 1600000 in
theorem crcGoes_walk (w : World) (A : Option Addr) (n c : Nat) (ss : List ByteArray) (h : Reads w w.heap.size 1 A n (strV ss)) (hn : n ≤ maxLen) (hs : ∀ x ∈ ss, x.size ≤ maxLen)
    (at_ : Int) (_hat : -9223372036854775808 ≤ at_ ∧ at_ ≤ 9223372036854775807) :
    Calls Try.prog 4 #[.slice A n c, .int .i64 at_] w fun e w' => e = .returned (.bool true) ∧ Below w.heap.size w w' := by
  have HJ := hide (joined_any _ A n c ss w h hn hs)
  have HN := Lib.hid hn
  have HS := Lib.hid hs
  have HR := Lib.hid h
  clear h hn hs
  obtain ⟨i0, hi0, hz0, hz1, hz2⟩ := info_parts Try.infoStr
  have HI := Lib.hid hi0
  have HZ0 := Lib.hid hz0
  have HZ1 := Lib.hid hz1
  have HZ2 := Lib.hid hz2
  clear hi0 hz0 hz1 hz2
  go_enter Try.func4, Try.ntmps4
  go_wp2_with fail
  refine (HJ.out).mono ?_
  rintro e w' ⟨rfl, S, ok, rfl, hok⟩
  have HOK := Lib.hid hok
  clear hok
  go_wp2_with fail
  refine (awake_any _).mono ?_
  rintro e w1 ⟨rfl, hb1⟩
  cases ok
  · go_wp2_with fail
    refine (awake_any _).mono ?_
    rintro e w2 ⟨rfl, hb2⟩
    go_wp2
    go_ret
    exact ⟨rfl, hb1.trans (hb2.mono hb1.size)⟩
  · have hok := HOK.out rfl
    have hw1 := hb1.size
    go_wp2_with (at_builtin; refine wpList_append_any _ rfl (.tmp 20) (.tmp 21) _ rfl w1.heap.size 9 i0 _ 1 16 Try.underlying23 HI.out HZ0.out HZ1.out HZ2.out rfl (by omega) (.slice (some ⟨w1.heap.size, 0, none⟩) 0 0) 0 [] rfl (own_empty w1 _ 1) w.heap.size A n c (strV ss) rfl ((HR.out.below hb1).alloc hb1.size _) (strV_one ss) ?c1 ?c2 ?c3 ?_)
    case c1 => have := hok.2.1; unfold maxLen; omega
    case c2 => have := hok.2.1; omega
    case c3 => simp
    intro v1 w2 hown hg hat
    try simp only [Nat.zero_add, List.nil_append] at hown
    have hb2 : Below w.heap.size w w2 := (hb1.alloc hb1.size _).grown hg (by simp; omega) (by intro k hk; simp [Value.ownBlock] at hk; omega)
    obtain ⟨g1, c1, rfl, hc1, hcm, hg1, hrd⟩ := own_some hown hat
    have hn2 := hok.2.1
    obtain ⟨K, hK, eK⟩ := cut_place at_ n (by omega)
    have hS : S.size ≤ maxLen := by have := hok.2.2; unfold maxLen; omega
    have HP : ∀ W, Below w2.heap.size w2 W → Calls Try.prog 9 #[.slice (some ⟨g1, 0, none⟩) K c1] W fun e w' => e = .returned (.int .u32 (Crc.more 0#32 (cat (ss.take K))).toNat) ∧ W = w' := fun W hW =>
      crcSum_any _ (some ⟨g1, 0, none⟩) K c1 (ss.take K) W (by have := (hrd.below hW).head hK; rwa [strV_take] at this) (Nat.le_trans hK HN.out) (fun x hx => HS.out x (List.mem_of_mem_take hx))
    have HP' := Lib.hid HP
    have HQ : ∀ W, Below w2.heap.size w2 W → ∀ cc m A2, m = n - K → A2 = (if c1 = K then some (⟨g1, 0, none⟩ : Addr) else some ⟨g1, K, none⟩) → Calls Try.prog 11 #[.int .u32 (Crc.more 0#32 (cat (ss.take K))).toNat,   .slice A2 m cc] W fun e w' =>
        e = .returned (.int .u32 (Crc.more 0#32 (cat ss)).toNat) ∧ W = w' := fun W hW cc m A2 hm hA2 => by
      subst hm
      have hr2 := (hrd.below hW).cut hK hc1
      rw [strV_drop] at hr2
      have eA : (if c1 = K then some (⟨g1, 0, none⟩ : Addr) else (some (⟨g1, 0, none⟩ : Addr)).map (·.add (K * 1))) = A2 := by
        rw [hA2]
        by_cases hcK : c1 = K
        · rw [if_pos hcK, if_pos hcK]
        · rw [if_neg hcK, if_neg hcK]
          simp only [Option.map_some, Nat.mul_one, Addr.add]
          split <;> simp_all
      rw [eA] at hr2
      have h := crcMore_any (Crc.more 0#32 (cat (ss.take K))) _ A2 (n - K) cc (ss.drop K) W hr2 (by have := HN.out; omega) (fun x hx => HS.out x (List.mem_of_mem_drop hx))
      rw [← Crc.more_append, cat_cut] at h
      exact h
    have HQ' := Lib.hid HQ
    have HT : ∀ (a : Addr) (W : World), W.cell? a = some (.string S) → Calls Try.prog 9 #[.slice (some a) 1 1] W fun e w' => e = .returned (.int .u32 (Crc.more 0#32 (cat ss)).toNat) ∧ W = w' := fun a W ha => by
      have h := crcSum_one S a W 1 hS ha
      rw [hok.1] at h
      exact h
    have HT' := Lib.hid HT
    have HB := Lib.hid hb2
    have hKc : (K : Int) ≤ c1 := by omega
    have hKn : (K : Int) ≤ n := by omega
    unfold maxLen at hcm
    clear hok hown hg hat hrd hb1 hw1 hb2 HP HQ HT hS
    go_wp2_with fail
    simp only [eK]
    clear eK
    by_cases hcK : c1 = K
    · subst hcK
      go_region_with (first
        | (go_at_call_of 9 (Value.slice (some ⟨g1, 0, none⟩) c1 c1); (with_reducible refine (HP'.out _ ?_).mono ?_); (first | exact (Below.refl _ _).drew | exact ((Below.refl _ _).alloc (Nat.le_refl _) _).drew); rintro e w' ⟨rfl, rfl⟩)
        | (go_at_call 11; (with_reducible refine (HQ'.out _ ?_ _ _ _ ?_ ?_).mono ?_); (first | exact (Below.refl _ _).drew | exact ((Below.refl _ _).alloc (Nat.le_refl _) _).drew); omega; simp; rintro e w' ⟨rfl, rfl⟩)
        | (go_at_call 9; (with_reducible refine (HT'.out _ _ ?_).mono ?_); go_simp; rintro e w' ⟨rfl, rfl⟩))
      all_goals
        go_wp2
        go_ret
        exact ⟨rfl, HB.out.trans (below_drewN (((Below.refl _ _).alloc (Nat.le_refl _) _).mono HB.out.size) 1)⟩
    · go_region_with (first
        | (go_at_call_of 9 (Value.slice (some ⟨g1, 0, none⟩) K c1); (with_reducible refine (HP'.out _ ?_).mono ?_); (first | exact (Below.refl _ _).drew | exact ((Below.refl _ _).alloc (Nat.le_refl _) _).drew); rintro e w' ⟨rfl, rfl⟩)
        | (go_at_call 11; (with_reducible refine (HQ'.out _ ?_ _ _ _ ?_ ?_).mono ?_); (first | exact (Below.refl _ _).drew | exact ((Below.refl _ _).alloc (Nat.le_refl _) _).drew); omega; rw [if_neg hcK]; rintro e w' ⟨rfl, rfl⟩)
        | (go_at_call 9; (with_reducible refine (HT'.out _ _ ?_).mono ?_); go_simp; rintro e w' ⟨rfl, rfl⟩))
      all_goals
        go_wp2
        go_ret
        exact ⟨rfl, HB.out.trans (below_drewN (((Below.refl _ _).alloc (Nat.le_refl _) _).mono HB.out.size) 1)⟩

end Go.Proofs.Ytnpnonoogdiimaa
