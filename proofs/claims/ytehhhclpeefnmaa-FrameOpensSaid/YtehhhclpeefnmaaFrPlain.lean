/-
  THE PLAIN LAW OF FRAMES: a number's bytes, a frame's bytes, what stands first, what stands in all. No program in sight.
-/
import Derived.Test.YtehhhclpeefnmaaCrcPlain
namespace Go.Proofs.Ytehhhclpeefnmaa.Fr

/-- a number's bytes -/
def enc (z : Nat) : List UInt8 := if h : z < 128 then [UInt8.ofNat z] else UInt8.ofNat (z % 128 + 128) :: enc (z / 128)
termination_by z
decreasing_by omega

theorem enc_lt {z : Nat} (h : z < 128) : enc z = [UInt8.ofNat z] := by rw [enc]; simp [h]
theorem enc_ge {z : Nat} (h : 128 ≤ z) : enc z = UInt8.ofNat (z % 128 + 128) :: enc (z / 128) := by rw [enc]; simp [Nat.not_lt.2 h]
theorem enc_pos (z : Nat) : 1 ≤ (enc z).length := by
  rcases Nat.lt_or_ge z 128 with h | h
  · rw [enc_lt h]; simp
  · rw [enc_ge h]; simp

theorem enc_len (j : Nat) : ∀ z : Nat, z < 128 ^ j → (enc z).length ≤ j ∨ z = 0 := by
  induction j with
  | zero => intro z h; right; simpa using h
  | succ j ih =>
    intro z h
    rcases Nat.lt_or_ge z 128 with h1 | h1
    · left; rw [enc_lt h1]; simp
    · left
      rw [enc_ge h1]
      rw [Nat.pow_succ] at h
      rcases ih (z / 128) (by omega) with h2 | h2
      · simp; omega
      · omega
theorem enc_small (z : Nat) (h : z < 9223372036854775808) : (enc z).length ≤ 9 := by
  rcases enc_len 9 z (by rw [show (128 : Nat) ^ 9 = 9223372036854775808 by decide]; exact h) with h1 | h1
  · exact h1
  · subst h1; rw [enc_lt (by omega)]; simp

/-- the number that stands first, from the k-th byte on: as it is written, and how many bytes in all -/
def dec : List UInt8 → Nat → Nat → Option (Nat × Nat)
  | [], _, _ => none
  | c :: s, k, a =>
    if k = 9 ∧ 1 < c.toNat then none
    else if 128 ≤ c.toNat then dec s (k + 1) (a + c.toNat % 128 * 128 ^ k)
    else if c.toNat = 0 ∧ 0 < k then none
    else some (a + c.toNat * 128 ^ k, k + 1)

theorem dec_stop9 (c : UInt8) (t : List UInt8) (a : Nat) (h : 1 < c.toNat) : dec (c :: t) 9 a = none := by simp [dec, h]
theorem dec_more (c : UInt8) (t : List UInt8) (k a : Nat) (h9 : k = 9 → ¬ 1 < c.toNat) (h : 128 ≤ c.toNat) : dec (c :: t) k a = dec t (k + 1) (a + c.toNat % 128 * 128 ^ k) := by
  simp only [dec]
  rw [if_neg (fun ⟨h1, h2⟩ => h9 h1 h2), if_pos h]
theorem dec_zero (c : UInt8) (t : List UInt8) (k a : Nat) (h : c.toNat = 0) (hk : 0 < k) : dec (c :: t) k a = none := by
  simp only [dec]
  rw [if_neg (fun ⟨_, h2⟩ => by omega), if_neg (by omega), if_pos ⟨h, hk⟩]
theorem dec_end (c : UInt8) (t : List UInt8) (k a : Nat) (h9 : k = 9 → ¬ 1 < c.toNat) (h : c.toNat < 128) (hz : ¬ (c.toNat = 0 ∧ 0 < k)) : dec (c :: t) k a = some (a + c.toNat % 128 * 128 ^ k, k + 1) := by
  simp only [dec]
  rw [if_neg (fun ⟨h1, h2⟩ => h9 h1 h2), if_neg (by omega), if_neg hz, Nat.mod_eq_of_lt h]
theorem pow7 (k : Nat) : (2 : Nat) ^ (7 * k) = 128 ^ k := by rw [Nat.pow_mul]
theorem pow9 : (128 : Nat) ^ 9 = 9223372036854775808 := by decide

theorem dec_enc (z : Nat) : ∀ (t : List UInt8) (k a : Nat), k ≤ 9 → z * 128 ^ k < 18446744073709551616 → (k = 0 ∨ z ≠ 0) → dec (enc z ++ t) k a = some (a + z * 128 ^ k, k + (enc z).length) := by
  induction z using Nat.strongRecOn with
  | _ z ih =>
    intro t k a hk hz h0
    have h9 : k = 9 → z < 2 := by
      rintro rfl
      rw [pow9] at hz
      omega
    rcases Nat.lt_or_ge z 128 with h | h
    · rw [enc_lt h]
      have ht : (UInt8.ofNat z).toNat = z := by simp; omega
      simp only [List.cons_append, List.nil_append, dec, ht]
      rw [if_neg (fun ⟨h1, h2⟩ => by have := h9 h1; omega), if_neg (by omega), if_neg (fun ⟨h1, h2⟩ => by omega)]
      simp
    · rw [enc_ge h]
      have hk8 : k < 9 := by
        rcases Nat.lt_or_ge k 9 with h' | h'
        · exact h'
        · have := h9 (by omega); omega
      have ht : (UInt8.ofNat (z % 128 + 128)).toNat = z % 128 + 128 := by simp; omega
      have hm : (z % 128 + 128) % 128 = z % 128 := by omega
      have hzz : z / 128 * 128 ^ (k + 1) ≤ z * 128 ^ k := by
        rw [Nat.pow_succ, Nat.mul_comm (128 ^ k) 128, ← Nat.mul_assoc]
        exact Nat.mul_le_mul_right _ (Nat.div_mul_le_self z 128)
      simp only [List.cons_append, dec, ht]
      rw [if_neg (fun ⟨h1, _⟩ => by omega), if_pos (by omega), hm, ih (z / 128) (by omega) t (k + 1) _ (by omega) (by omega) (Or.inr (by omega))]
      have e : z * 128 ^ k = z % 128 * 128 ^ k + z / 128 * 128 ^ (k + 1) := by
        have : z = z % 128 + z / 128 * 128 := by omega
        rw [Nat.pow_succ, Nat.mul_comm (128 ^ k) 128, ← Nat.mul_assoc, ← Nat.add_mul, ← this]
      rw [e]
      simp only [List.length_cons]
      congr 2
      · omega
      · omega

theorem dec_spec (s : List UInt8) : ∀ (k a z m : Nat), dec s k a = some (z, m) → ∃ q, z = a + q * 128 ^ k ∧ m = k + (enc q).length ∧ (∃ t, s = enc q ++ t) ∧ (k = 0 ∨ q ≠ 0) := by
  induction s with
  | nil => intro k a z m h; cases h
  | cons c s ih =>
    intro k a z m h
    have hc := c.toNat_lt
    simp only [dec] at h
    split at h
    · cases h
    · split at h
      · rename_i h1 h2
        obtain ⟨q, hz, hm, ⟨t, ht⟩, hq⟩ := ih _ _ _ _ h
        have hq0 : q ≠ 0 := by omega
        have hge : 128 ≤ c.toNat % 128 + 128 * q := by omega
        have hmod : (c.toNat % 128 + 128 * q) % 128 = c.toNat % 128 := by omega
        have hdiv : (c.toNat % 128 + 128 * q) / 128 = q := by omega
        have hcc : UInt8.ofNat (c.toNat % 128 + 128) = c := by
          have : c.toNat % 128 + 128 = c.toNat := by omega
          rw [this]; simp
        refine ⟨c.toNat % 128 + 128 * q, ?_, ?_, ⟨t, ?_⟩, Or.inr (by omega)⟩
        · rw [hz, Nat.pow_succ, Nat.add_mul, Nat.add_assoc]
          congr 2
          rw [Nat.mul_comm (128 ^ k) 128, ← Nat.mul_assoc, Nat.mul_comm q 128]
        · rw [enc_ge hge, hmod, hdiv, hm]; simp; omega
        · rw [enc_ge hge, hmod, hdiv, hcc, ht]; rfl
      · split at h
        · cases h
        · rename_i h1 h2 h3
          simp only [Option.some.injEq, Prod.mk.injEq] at h
          obtain ⟨rfl, rfl⟩ := h
          have hlt : c.toNat < 128 := by omega
          refine ⟨c.toNat, rfl, by rw [enc_lt hlt]; simp, ⟨s, by rw [enc_lt hlt]; simp⟩, ?_⟩
          rcases Nat.eq_zero_or_pos k with h | h
          · exact Or.inl h
          · exact Or.inr fun e => h3 ⟨e, h⟩

/-- what a number is, as it is written -/
def unz (z : Nat) : Int := if z % 2 = 1 then -1 - (z / 2 : Nat) else (z / 2 : Nat)

/-- four bytes, the least one first -/
def le4 (x : BitVec 32) : List UInt8 := [UInt8.ofNat (x.toNat % 256), UInt8.ofNat (x.toNat / 256 % 256), UInt8.ofNat (x.toNat / 65536 % 256), UInt8.ofNat (x.toNat / 16777216 % 256)]
theorem le4_len (x : BitVec 32) : (le4 x).length = 4 := rfl
theorem le4_inj {x y : BitVec 32} (h : le4 x = le4 y) : x = y := by
  simp only [le4, List.cons.injEq, and_true] at h
  obtain ⟨h0, h1, h2, h3⟩ := h
  have t : ∀ n m : Nat, n < 256 → m < 256 → UInt8.ofNat n = UInt8.ofNat m → n = m := fun n m hn hm e => by
    have := congrArg UInt8.toNat e
    simp at this
    omega
  have e0 := t _ _ (by omega) (by omega) h0
  have e1 := t _ _ (by omega) (by omega) h1
  have e2 := t _ _ (by omega) (by omega) h2
  have e3 := t _ _ (by omega) (by omega) h3
  have hx := x.isLt
  have hy := y.isLt
  apply BitVec.eq_of_toNat_eq
  omega

def sum (p : List UInt8) : BitVec 32 := Crc.more 0#32 p
/-- a payload's frame -/
def one (p : List UInt8) : List UInt8 := enc (2 * p.length) ++ (le4 (sum p) ++ p)
/-- payloads' frames -/
def all : List (List UInt8) → List UInt8
  | [] => []
  | p :: l => one p ++ all l
theorem one_len (p : List UInt8) : (one p).length = (enc (2 * p.length)).length + (4 + p.length) := by simp [one, le4_len]
theorem one_long (p : List UInt8) : 5 ≤ (one p).length := by
  have := enc_pos (2 * p.length)
  rw [one_len]; omega
theorem all_append (l m : List (List UInt8)) : all (l ++ m) = all l ++ all m := by
  induction l with
  | nil => rfl
  | cons p l ih => simp [all, ih]

/-- what stands first: its payload, and what stands behind -/
def openF (s : List UInt8) : Option (List UInt8 × List UInt8) :=
  match dec s 0 0 with
  | none => none
  | some (z, k) =>
    if z % 2 = 1 ∨ 1048576 < z / 2 ∨ s.length < k + 4 + z / 2 then none
    else if (s.drop k).take 4 = le4 (sum ((s.drop (k + 4)).take (z / 2))) then some ((s.drop (k + 4)).take (z / 2), s.drop (k + 4 + z / 2)) else none

theorem open_one (p t : List UInt8) (h : p.length ≤ 1048576) : openF (one p ++ t) = some (p, t) := by
  have hd : dec (one p ++ t) 0 0 = some (2 * p.length, (enc (2 * p.length)).length) := by
    have := dec_enc (2 * p.length) (le4 (sum p) ++ p ++ t) 0 0 (by omega) (by omega) (Or.inl rfl)
    simpa [one] using this
  have e0 : 2 * p.length / 2 = p.length := by omega
  have hlen : (one p ++ t).length = (enc (2 * p.length)).length + (4 + p.length) + t.length := by rw [List.length_append, one_len]
  have d0 : (one p ++ t).drop (enc (2 * p.length)).length = le4 (sum p) ++ (p ++ t) := by simp [one]
  have d1 : (one p ++ t).drop ((enc (2 * p.length)).length + 4) = p ++ t := by
    rw [← List.drop_drop, d0]
    exact List.drop_left' (le4_len _)
  have d2 : (one p ++ t).drop ((enc (2 * p.length)).length + 4 + p.length) = t := by
    rw [← List.drop_drop, d1]
    exact List.drop_left' rfl
  unfold openF
  rw [hd]
  simp only [e0]
  rw [if_neg (by omega), d0, d1, d2]
  have t0 : (le4 (sum p) ++ (p ++ t)).take 4 = le4 (sum p) := List.take_left' (le4_len _)
  have t1 : (p ++ t).take p.length = p := List.take_left' rfl
  rw [t0, t1, if_pos rfl]

theorem open_spec (s p t : List UInt8) (h : openF s = some (p, t)) : p.length ≤ 1048576 ∧ s = one p ++ t := by
  unfold openF at h
  cases hd : dec s 0 0 with
  | none => rw [hd] at h; cases h
  | some zk =>
    obtain ⟨z, k⟩ := zk
    rw [hd] at h
    simp only at h
    split at h
    · cases h
    · split at h
      · rename_i h1 h2
        simp only [Option.some.injEq, Prod.mk.injEq] at h
        obtain ⟨rfl, rfl⟩ := h
        obtain ⟨q, hz, hk, ⟨t, ht⟩, _⟩ := dec_spec _ _ _ _ _ hd
        simp only [Nat.zero_add, Nat.pow_zero, Nat.mul_one] at hz hk
        subst hz
        subst hk
        have hlen : ((s.drop ((enc z).length + 4)).take (z / 2)).length = z / 2 := by
          rw [List.length_take, List.length_drop]; omega
        refine ⟨by omega, ?_⟩
        unfold one
        rw [hlen, ← h2]
        have e2 : 2 * (z / 2) = z := by omega
        rw [e2]
        have s0 : s = enc z ++ s.drop (enc z).length := by rw [ht]; simp
        have s1 : s.drop (enc z).length = (s.drop (enc z).length).take 4 ++ s.drop ((enc z).length + 4) := by
          rw [← List.drop_drop, List.take_append_drop]
        have s2 : s.drop ((enc z).length + 4) = (s.drop ((enc z).length + 4)).take (z / 2) ++ s.drop ((enc z).length + 4 + z / 2) := by
          have e3 : s.drop ((enc z).length + 4 + z / 2) = (s.drop ((enc z).length + 4)).drop (z / 2) := by rw [List.drop_drop]
          rw [e3, List.take_append_drop]
        simp only [List.append_assoc]
        rw [← s2, ← s1, ← s0]
      · cases h

theorem open_short (s p t : List UInt8) (h : openF s = some (p, t)) : t.length + 5 ≤ s.length := by
  have := (open_spec s p t h).2
  have h5 := one_long p
  rw [this, List.length_append]
  omega

/-- a frame that is cut off is none -/
theorem open_cut (p t : List UInt8) (hp : p.length ≤ 1048576) (m : Nat) (hm : m < (one p).length) : openF ((one p ++ t).take m) = none := by
  cases h : openF ((one p ++ t).take m) with
  | none => rfl
  | some qr =>
    obtain ⟨q, r⟩ := qr
    obtain ⟨hq, hs⟩ := open_spec _ _ _ h
    have e : one p = one q ++ (r ++ (one p).drop m) := by
      rw [← List.append_assoc, ← hs, List.take_append_of_le_length (by omega), List.take_append_drop]
    have h1 := open_one p [] hp
    rw [List.append_nil, e, open_one q _ hq] at h1
    simp only [Option.some.injEq, Prod.mk.injEq] at h1
    have h2 := congrArg List.length h1.2
    simp at h2
    omega

/-- all frames that stand there: their payloads, and what stands behind them -/
def scanF : Nat → List UInt8 → List (List UInt8) × List UInt8
  | 0, s => ([], s)
  | f + 1, s => match openF s with
    | none => ([], s)
    | some (p, t) => (p :: (scanF f t).1, (scanF f t).2)
def scan (s : List UInt8) : List (List UInt8) × List UInt8 := scanF s.length s

theorem scanF_more (f : Nat) : ∀ (g : Nat) (s : List UInt8), s.length ≤ f → s.length ≤ g → scanF f s = scanF g s := by
  induction f with
  | zero =>
    intro g s hf hg
    obtain rfl : s = [] := List.eq_nil_of_length_eq_zero (by omega)
    cases g with
    | zero => rfl
    | succ g => rfl
  | succ f ih =>
    intro g s hf hg
    cases g with
    | zero =>
      obtain rfl : s = [] := List.eq_nil_of_length_eq_zero (by omega)
      rfl
    | succ g =>
      simp only [scanF]
      cases h : openF s with
      | none => rfl
      | some pt =>
        obtain ⟨p, t⟩ := pt
        have := open_short s p t h
        simp only [ih g t (by omega) (by omega)]
theorem scan_none (s : List UInt8) (h : openF s = none) : scan s = ([], s) := by
  unfold scan
  cases hs : s.length with
  | zero => rfl
  | succ n => simp only [scanF, h]
theorem scan_some (s p t : List UInt8) (h : openF s = some (p, t)) : scan s = (p :: (scan t).1, (scan t).2) := by
  have hl := open_short s p t h
  unfold scan
  cases hs : s.length with
  | zero => omega
  | succ n =>
    simp only [scanF, h]
    rw [scanF_more n t.length t (by omega) (Nat.le_refl _)]
theorem scan_all (l : List (List UInt8)) (t : List UInt8) (h : ∀ p ∈ l, p.length ≤ 1048576) : scan (all l ++ t) = (l ++ (scan t).1, (scan t).2) := by
  induction l with
  | nil => rfl
  | cons p l ih =>
    have h0 := open_one p (all l ++ t) (h p (List.mem_cons_self ..))
    rw [← List.append_assoc] at h0
    unfold all
    rw [scan_some _ _ _ h0, ih fun q hq => h q (List.mem_cons_of_mem _ hq)]
    rfl
end Go.Proofs.Ytehhhclpeefnmaa.Fr
