/-
  THE PLAIN LAW OF FrameTurns: a frame of which a byte has turned, behind its length, is none. No program in sight.
-/
import Derived.Test.YtehhhclpeefnmaaFrPlain
namespace Go.Proofs.Ytehhhclpeefnmaa.Fr

theorem stps_inj (n : Nat) {a b : BitVec 32} (h : Crc.stps n a = Crc.stps n b) : a = b := by
  have hx : Crc.stps n (a ^^^ b) = 0#32 := by rw [Crc.stps_xor, h]; simp
  have h0 : a ^^^ b = 0#32 := by
    rcases Decidable.em (a ^^^ b = 0#32) with h0 | h0
    · exact h0
    · exact absurd hx (Crc.stps_ne n _ h0)
  have : a = b ^^^ (a ^^^ b) := by
    rw [BitVec.xor_comm a b, ← BitVec.xor_assoc]; simp
  rw [this, h0]; simp
theorem xor_cancel {a b c : BitVec 32} (h : a ^^^ c = b ^^^ c) : a = b := by
  have := congrArg (fun z => z ^^^ c) h
  simpa [BitVec.xor_assoc] using this
theorem byt_inj (b : UInt8) {r r' : BitVec 32} (h : Crc.byt r b = Crc.byt r' b) : r = r' := xor_cancel (stps_inj 8 h)
theorem byt_inj2 (r : BitVec 32) {b c : UInt8} (h : Crc.byt r b = Crc.byt r c) : b = c := by
  have h1 := stps_inj 8 h
  rw [BitVec.xor_comm r, BitVec.xor_comm r] at h1
  have h2 := xor_cancel h1
  have h3 : b.toBitVec = c.toBitVec := by
    have := congrArg (fun z => z.setWidth 8) h2
    simpa using this
  exact UInt8.toBitVec_inj.1 h3
theorem run_inj (m : List UInt8) : ∀ {r r' : BitVec 32}, Crc.run r m = Crc.run r' m → r = r' := by
  induction m with
  | nil => intro r r' h; exact h
  | cons b m ih => intro r r' h; exact byt_inj b (ih h)
theorem sum_turned (l m : List UInt8) (b c : UInt8) (h : sum (l ++ b :: m) = sum (l ++ c :: m)) : b = c := by
  unfold sum Crc.more at h
  have h1 := congrArg (fun z => ~~~ z) h
  simp only [BitVec.not_not] at h1
  rw [Crc.run_append, Crc.run_append] at h1
  exact byt_inj2 _ (run_inj m h1)

theorem enc_len_eq {a b : Nat} {s t : List UInt8} (ha : a ≤ 1048576) (hb : b ≤ 1048576) (h : enc (2 * a) ++ s = enc (2 * b) ++ t) : a = b ∧ s = t := by
  have h1 := dec_enc (2 * a) s 0 0 (by omega) (by omega) (Or.inl rfl)
  have h2 := dec_enc (2 * b) t 0 0 (by omega) (by omega) (Or.inl rfl)
  rw [h, h2] at h1
  simp at h1
  obtain ⟨h3, _⟩ := h1
  have e : a = b := by omega
  subst e
  exact ⟨rfl, List.append_cancel_left h⟩

/-- the frame with byte j behind its length turned -/
theorem open_turned (p : List UInt8) (hp : p.length ≤ 1048576) (l m : List UInt8) (b c : UInt8) (hbc : b ≠ c) (h : le4 (sum p) ++ p = l ++ b :: m) : openF (enc (2 * p.length) ++ (l ++ c :: m)) = none := by
  cases ho : openF (enc (2 * p.length) ++ (l ++ c :: m)) with
  | none => rfl
  | some qt =>
    exfalso
    obtain ⟨q, t⟩ := qt
    obtain ⟨hq, hs⟩ := open_spec _ _ _ ho
    unfold one at hs
    rw [List.append_assoc] at hs
    obtain ⟨he, hr⟩ := enc_len_eq hp hq hs
    have hlen : l.length + (1 + m.length) = 4 + p.length := by
      have := congrArg List.length h
      simp [le4_len] at this
      omega
    have ht : t = [] := by
      have := congrArg List.length hr
      simp [le4_len] at this
      exact List.eq_nil_of_length_eq_zero (by omega)
    subst ht
    rw [List.append_nil] at hr
    rcases Nat.lt_or_ge l.length 4 with h4 | h4
    · -- in the sum
      have hd : (l ++ b :: m).drop 4 = (l ++ c :: m).drop 4 := by
        obtain ⟨k, hk⟩ : ∃ k, 4 - l.length = k + 1 := ⟨3 - l.length, by omega⟩
        rw [List.drop_append, List.drop_append, hk]
        rfl
      rw [← h, hr] at hd
      have e1 : (le4 (sum p) ++ p).drop 4 = p := List.drop_left' (le4_len _)
      have e2 : (le4 (sum q) ++ q).drop 4 = q := List.drop_left' (le4_len _)
      rw [e1, e2] at hd
      subst hd
      rw [h] at hr
      have := List.append_cancel_left hr
      injection this with h1 _
      exact hbc h1.symm
    · -- in the payload
      have e1 : (le4 (sum p) ++ p).take 4 = le4 (sum p) := List.take_left' (le4_len _)
      have e2 : (le4 (sum q) ++ q).take 4 = le4 (sum q) := List.take_left' (le4_len _)
      have d1 : (le4 (sum p) ++ p).drop 4 = p := List.drop_left' (le4_len _)
      have d2 : (le4 (sum q) ++ q).drop 4 = q := List.drop_left' (le4_len _)
      rw [h, List.take_append_of_le_length h4] at e1
      rw [← hr, List.take_append_of_le_length h4] at e2
      rw [h, List.drop_append_of_le_length h4] at d1
      rw [← hr, List.drop_append_of_le_length h4] at d2
      have hsum := le4_inj (e1.symm.trans e2)
      rw [← d1, ← d2] at hsum
      exact hbc (sum_turned _ _ _ _ hsum)
end Go.Proofs.Ytehhhclpeefnmaa.Fr
