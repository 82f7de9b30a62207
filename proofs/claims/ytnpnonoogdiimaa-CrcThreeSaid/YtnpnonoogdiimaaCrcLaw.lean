/-
  THE WALKS OF THE CHECK SUM'S STATEMENTS: the reference's sum, what joins the parts, what is asked first, and the four laws' own bodies.
-/
import Derived.Test.YtnpnonoogdiimaaCrcWalk
import Derived.Test.YtnpnonoogdiimaaApp
import Derived.Deep.QuietTactic
import Derived.BigQuiet
import Derived.Deep.RegionHeld3
namespace Go.Proofs.Ytnpnonoogdiimaa
open Go.RowKit

theorem refNot (s : BitVec 32) : ((4294967295 : Int) - (s.toNat : Int)) = ((~~~ s).toNat : Int) := by
  rw [BitVec.toNat_not]
  have := u32_lt s
  omega

set_option maxHeartbeats 400000 in
theorem refMore_any (s : BitVec 32) (x : ByteArray) (w : World) (hx : x.size ≤ maxLen) :
    Calls Try.prog 12 #[.int .u32 s.toNat, .string x] w fun e w' => e = .returned (.int .u32 (Crc.more s x.data.toList).toNat) ∧ w = w' := by
  unfold maxLen at hx
  have hs := u32_lt s
  go_enter Try.func12, Try.ntmps12
  go_wp2
  go_loop [5, 6] (fun r i => ∃ j : Nat, j ≤ x.size ∧ i = .int .i64 j ∧ r = .int .u32 (Crc.run (~~~ s) (x.data.toList.take j)).toNat) (fun _ i => x.size - (intOf i).toNat)
  case atStart => exact ⟨0, Nat.zero_le _, rfl, by rw [refNot]; rfl⟩
  case round =>
    obtain ⟨j, hj, rfl, rfl⟩ := hrel
    obtain ⟨Q, hQ⟩ : ∃ Q, Q = Crc.run (~~~ s) (x.data.toList.take j) := ⟨_, rfl⟩
    rw [← hQ]
    have hq := u32_lt Q
    have HQ := Lib.hid hQ
    clear hQ
    by_cases hjt : j < x.size
    · go_wp2_with (go_at_call 13; refine (refTaken_any _ _ _).mono ?_; rintro e w' ⟨rfl, rfl⟩)
      go_round
      case rel => exact ⟨j + 1, by omega, by go_num, by rw [run_take _ x j hjt, ← HQ.out]⟩
      case measure => simp [intOf]; omega
    · go_wp2
      go_ret
      exact ⟨ret_int (by rw [refNot, HQ.out, List.take_of_length_le (by simp; omega)]; rfl), rfl⟩

set_option maxHeartbeats 400000 in
theorem refSum_any (x : ByteArray) (w : World) (hx : x.size ≤ maxLen) :
    Calls Try.prog 10 #[.string x] w fun e w' => e = .returned (.int .u32 (Crc.more 0#32 x.data.toList).toNat) ∧ w = w' := by
  have H := hide (refMore_any 0#32 x w hx)
  clear hx
  go_enter Try.func10, Try.ntmps10
  go_wp2_with (go_at_call 12; refine (H.out).mono ?_; rintro e w' ⟨rfl, rfl⟩)
  go_ret
  exact ⟨rfl, rfl⟩

/-- what joins the parts: one text and true, with what it says of them; or false -/
def Joined (n : Nat) (ss : List ByteArray) (w : World) (e : Ending) (w' : World) : Prop :=
  w = w' ∧ ∃ (s : ByteArray) (ok : Bool), e = .returned (.tuple #[.string s, .bool ok]) ∧ (ok = true → s.data.toList = cat ss ∧ n ≤ 201 ∧ s.size ≤ 12288)

set_option maxHeartbeats 400000 in
theorem joined_some (ad : Addr) (n c : Nat) (ss : List ByteArray) (w : World) (hl : ss.length = n) (_hn : n ≤ maxLen)
    (hc : ∀ k (h : k < ss.length), w.cell? (ad.add k) = some (.string ss[k])) (hs : ∀ k (h : k < ss.length), ss[k].size ≤ maxLen) :
    Calls Try.prog 7 #[.slice (some ad) n c] w (Joined n ss w) := by
  unfold maxLen at _hn
  have HL := Lib.hid hl
  have HC := Lib.hid hc
  have HS := Lib.hid hs
  clear hl hc hs
  go_enter Try.func7, Try.ntmps7
  go_wp2
  go_loop [2, 3, 4, 9] (fun a b u i => ∃ (k : Nat) (S : ByteArray), k ≤ n ∧ k ≤ 201 ∧ i = .int .i64 k ∧ a = .string ⟨#[]⟩ ∧ b = .bool false ∧ u = .string S ∧ S.data.toList = cat (ss.take k) ∧ S.size ≤ 12288) (fun _ _ _ i => n - (intOf i).toNat)
  case atStart => exact ⟨0, ⟨#[]⟩, Nat.zero_le _, by omega, rfl, rfl, rfl, rfl, rfl, by simp [ByteArray.size]⟩
  case round =>
    obtain ⟨k, S, hk, hk2, rfl, rfl, rfl, rfl, hS, hSz⟩ := hrel
    have HSS := Lib.hid hS
    clear hS
    by_cases hlt : k < n
    · have hk' : k < ss.length := by rw [HL.out]; exact hlt
      have hcell := HC.out k hk'
      have hsz := HS.out k hk'
      obtain ⟨x, hx⟩ : ∃ x, x = ss[k] := ⟨_, rfl⟩
      rw [← hx] at hcell hsz
      have HX := Lib.hid hx
      clear hx
      unfold maxLen at hsz
      by_cases h1 : (200 : Int) < k
      · go_wp2
        go_ret2
        exact ⟨rfl, _, _, rfl, fun h => by cases h⟩
      · by_cases h2 : (4096 : Int) < x.size
        · go_wp2
          go_ret2
          exact ⟨rfl, _, _, rfl, fun h => by cases h⟩
        · by_cases h3 : (8192 : Int) < S.size
          · go_wp2
            go_ret2
            exact ⟨rfl, _, _, rfl, fun h => by cases h⟩
          · go_wp2
            go_round
            case rel =>
              exact ⟨k + 1, S ++ x, by omega, by omega, by go_num, rfl, rfl, rfl, by rw [cat_snoc ss k hk', ByteArray.data_append, Array.toList_append, HSS.out, HX.out], by rw [ByteArray.size_append]; omega⟩
            case measure => simp [intOf]; omega
    · go_wp2
      go_ret2
      exact ⟨rfl, _, _, rfl, fun _ => ⟨by rw [HSS.out, List.take_of_length_le (by have := HL.out; omega)], by omega, hSz⟩⟩

set_option maxHeartbeats 400000 in
theorem joined_none (c : Nat) (w : World) :
    Calls Try.prog 7 #[.slice none 0 c] w (Joined 0 [] w) := by
  go_enter Try.func7, Try.ntmps7
  go_wp2
  go_loop [2, 3, 4, 9] (fun a b u i => i = .int .i64 0 ∧ a = .string ⟨#[]⟩ ∧ b = .bool false ∧ u = .string ⟨#[]⟩) (fun _ _ _ _ => 0)
  case atStart => exact ⟨rfl, rfl, rfl, rfl⟩
  case round =>
    obtain ⟨rfl, rfl, rfl, rfl⟩ := hrel
    go_wp2
    go_ret2
    exact ⟨rfl, _, _, rfl, fun _ => ⟨rfl, by omega, by simp [ByteArray.size]⟩⟩

theorem joined_any (B : Nat) (A : Option Addr) (n c : Nat) (ss : List ByteArray) (w : World) (h : Reads w B 1 A n (strV ss)) (hn : n ≤ maxLen) (hs : ∀ x ∈ ss, x.size ≤ maxLen) :
    Calls Try.prog 7 #[.slice A n c] w (Joined n ss w) := by
  have hl : ss.length = n := by have := h.1; simpa [strV] using this
  rcases A with _ | ad
  · have h0 : n = 0 := by
      rcases Nat.eq_zero_or_pos n with h0 | h0
      · exact h0
      · obtain ⟨ad, h', _⟩ := h.2 h0
        cases h'
    subst h0
    have : ss = [] := List.eq_nil_of_length_eq_zero hl
    subst this
    exact joined_none c w
  · refine joined_some ad n c ss w hl hn (fun k hk => ?_) (fun k hk => hs _ (List.getElem_mem hk))
    obtain ⟨ad', u, he, _, hu, hc⟩ := h.at_ (k := k) (by omega)
    injection he with he
    subst he
    rw [strV_at ss k hk] at hu
    injection hu with hu
    subst hu
    exact hc

/-- a list in a new block reads -/
theorem reads_new (w : World) (t : TypeId) (xs : List Value) (n : Nat) (hn : xs.length = n) : Reads (w.alloc (.cells xs.toArray t)) (w.heap.size + 1) 1 (some ⟨w.heap.size, 0, none⟩) n xs := by
  refine ⟨by omega, fun _ => ⟨_, rfl, by simp, fun j u hu => ?_⟩⟩
  have h := (Blk.new w t xs.toArray).cell j
  rw [show (Addr.add ⟨w.heap.size, 0, none⟩ j) = ⟨w.heap.size, j, none⟩ from by unfold Addr.add; split <;> simp_all, h]
  simpa using hu

/-- the sum of one text that lies in a new block -/
theorem crcSum_new (x : ByteArray) (w : World) (c : Nat) (hx : x.size ≤ maxLen) :
    Calls Try.prog 9 #[.slice (some ⟨w.heap.size, 0, none⟩) 1 c] (w.alloc (.cells #[.string x] 9)) fun e w' => e = .returned (.int .u32 (Crc.more 0#32 x.data.toList).toNat) ∧ w.alloc (.cells #[.string x] 9) = w' := by
  have h := crcSum_any (w.heap.size + 1) (some ⟨w.heap.size, 0, none⟩) 1 c [x] (w.alloc (.cells #[.string x] 9)) (reads_new w 9 [.string x] 1 rfl) (by unfold maxLen; omega) (by simpa using hx)
  simpa [cat] using h

theorem awake_sum (w : World) :
    Calls Try.prog 9 #[.slice (some ⟨w.heap.size, 0, none⟩) 3 3] (w.alloc (.cells #[.string ⟨#[49, 50, 51, 52]⟩, .string ⟨#[]⟩, .string ⟨#[53, 54, 55, 56, 57]⟩] 9)) fun e w' =>
      e = .returned (.int .u32 3421780262) ∧ w.alloc (.cells #[.string ⟨#[49, 50, 51, 52]⟩, .string ⟨#[]⟩, .string ⟨#[53, 54, 55, 56, 57]⟩] 9) = w' := by
  have h := crcSum_any (w.heap.size + 1) (some ⟨w.heap.size, 0, none⟩) 3 3 [⟨#[49, 50, 51, 52]⟩, ⟨#[]⟩, ⟨#[53, 54, 55, 56, 57]⟩] (w.alloc (.cells #[.string ⟨#[49, 50, 51, 52]⟩, .string ⟨#[]⟩, .string ⟨#[53, 54, 55, 56, 57]⟩] 9))
    (reads_new w 9 _ 3 rfl) (by unfold maxLen; omega) (by intro x hx; simp at hx; unfold maxLen; rcases hx with rfl | rfl | rfl <;> simp [ByteArray.size])
  have e : (Crc.more 0#32 (cat [⟨#[49, 50, 51, 52]⟩, ⟨#[]⟩, ⟨#[53, 54, 55, 56, 57]⟩])).toNat = 3421780262 := by decide +kernel
  rw [e] at h
  exact h
theorem awake_none (w : World) : Calls Try.prog 9 #[.slice none 0 0] w fun e w' => e = .returned (.int .u32 0) ∧ w = w' := by
  have h := crcSum_any 0 none 0 0 [] w Reads.none_ (by unfold maxLen; omega) (by intro x hx; cases hx)
  have e : (Crc.more 0#32 (cat [])).toNat = 0 := by decide +kernel
  rw [e] at h
  exact h
theorem awake_more (w : World) : Calls Try.prog 11 #[.int .u32 3421780262, .slice none 0 0] w fun e w' => e = .returned (.int .u32 3421780262) ∧ w = w' := by
  have h := crcMore_any 3421780262#32 0 none 0 0 [] w Reads.none_ (by unfold maxLen; omega) (by intro x hx; cases hx)
  have e : (Crc.more 3421780262#32 (cat [])).toNat = 3421780262 := by decide +kernel
  rw [e] at h
  exact h

set_option maxHeartbeats 400000 in
theorem awake_any (w : World) :
    Calls Try.prog 8 #[] w fun e w' => e = .returned (.bool true) ∧ Below w.heap.size w w' := by
  go_enter Try.func8, Try.ntmps8
  go_wp2_with fail
  refine (awake_sum w).mono ?_
  rintro e w' ⟨rfl, rfl⟩
  go_wp2_with fail
  refine (awake_none _).mono ?_
  rintro e w' ⟨rfl, rfl⟩
  go_wp2_with fail
  refine (awake_more _).mono ?_
  rintro e w' ⟨rfl, rfl⟩
  go_wp2
  go_ret
  exact ⟨rfl, (Below.refl _ _).alloc (Nat.le_refl _) _⟩

theorem Try.infoStr : (Try.prog.info? 9).map (fun i => (i.zero, i.size, i.bytes)) = some (some (.string ⟨#[]⟩), 1, 16) := by kernel_rfl

set_option maxHeartbeats 400000 in
theorem crcSums_walk (w : World) (s : BitVec 32) (A : Option Addr) (n c : Nat) (ss : List ByteArray) (h : Reads w w.heap.size 1 A n (strV ss)) (hn : n ≤ maxLen) (hs : ∀ x ∈ ss, x.size ≤ maxLen) :
    Calls Try.prog 3 #[.int .u32 s.toNat, .slice A n c] w fun e w' => e = .returned (.bool true) ∧ Below w.heap.size w w' := by
  have HJ := hide (joined_any _ A n c ss w h hn hs)
  have HN := Lib.hid hn
  have HS := Lib.hid hs
  have HR := Lib.hid h
  clear h hn hs
  obtain ⟨i0, hi0, hz0, hz1, hz2⟩ := info_parts Try.infoStr
  have HI := Lib.hid hi0
  have HZ0 := Lib.hid hz0
  have HZ1 := Lib.hid hz1
  have HZ2 := Lib.hid hz2
  clear hi0 hz0 hz1 hz2
  go_enter Try.func3, Try.ntmps3
  go_wp2_with fail
  refine (HJ.out).mono ?_
  rintro e w' ⟨rfl, S, ok, rfl, hok⟩
  have HOK := Lib.hid hok
  clear hok
  go_wp2_with fail
  refine (awake_any _).mono ?_
  rintro e w1 ⟨rfl, hb1⟩
  cases ok
  · go_wp2_with fail
    refine (awake_any _).mono ?_
    rintro e w2 ⟨rfl, hb2⟩
    go_wp2
    go_ret
    exact ⟨rfl, hb1.trans (hb2.mono hb1.size)⟩
  · have hok := HOK.out rfl
    have hw1 := hb1.size
    go_wp2_with (at_builtin; refine wpList_append_any _ rfl (.tmp 20) (.tmp 21) _ rfl w1.heap.size 9 i0 _ 1 16 Try.underlying23 HI.out HZ0.out HZ1.out HZ2.out rfl (by omega) (.slice (some ⟨w1.heap.size, 0, none⟩) 0 0) 0 [] rfl (own_empty w1 _ 1) w.heap.size A n c (strV ss) rfl ((HR.out.below hb1).alloc hb1.size _) (strV_one ss) ?c1 ?c2 ?c3 ?_)
    case c1 => have := hok.2.1; unfold maxLen; omega
    case c2 => have := hok.2.1; omega
    case c3 => simp
    intro v1 w2 hown hg hat
    try simp only [Nat.zero_add, List.nil_append] at hown
    have hb2 : Below w.heap.size w w2 := (hb1.alloc hb1.size _).grown hg (by simp; omega) (by intro k hk; simp [Value.ownBlock] at hk; omega)
    obtain ⟨A1, c1, rfl, hc1, hcm, hrd⟩ := own_slice hown
    have hS : S.size ≤ maxLen := by have := hok.2.2; unfold maxLen; omega
    have H1 := hide (crcSum_any _ A1 n c1 ss w2 hrd HN.out HS.out)
    have H2 := refSum_any S w2 hS
    have H3 := hide (crcMore_any s _ A1 n c1 ss w2 hrd HN.out HS.out)
    have H4 := refMore_any s S w2 hS
    rw [hok.1] at H2 H4
    have H2' := hide H2
    have H4' := hide H4
    have HB := Lib.hid hb2
    clear H2 H4 hok hown hg hat hrd hc1 hcm hb1 hw1 hS hb2
    go_wp2_with fail
    refine (H1.out).mono ?_
    rintro e w' ⟨rfl, rfl⟩
    go_wp2_with fail
    refine (H2'.out).mono ?_
    rintro e w' ⟨rfl, rfl⟩
    go_wp2_with fail
    refine (H3.out).mono ?_
    rintro e w' ⟨rfl, rfl⟩
    go_wp2_with fail
    refine (H4'.out).mono ?_
    rintro e w' ⟨rfl, rfl⟩
    go_wp2
    go_ret
    exact ⟨rfl, HB.out⟩

end Go.Proofs.Ytnpnonoogdiimaa
