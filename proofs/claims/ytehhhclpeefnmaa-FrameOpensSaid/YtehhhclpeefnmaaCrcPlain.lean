/-
  THE PLAIN LAW OF THE CHECK SUM: a register of 32 bits, bit by bit. No program in sight.
-/
namespace Go.Proofs.Ytehhhclpeefnmaa.Crc

/-- one step of the register -/
def stp (r : BitVec 32) : BitVec 32 := (r >>> 1) ^^^ (if r.getLsbD 0 then 0xedb88320#32 else 0#32)
/-- a bit as a register -/
def one (b : Bool) : BitVec 32 := if b then 1#32 else 0#32
/-- the register takes one bit -/
def bt (r : BitVec 32) (b : Bool) : BitVec 32 := stp (r ^^^ one b)
/-- the register takes a list of bits -/
def bitsRun (r : BitVec 32) (l : List Bool) : BitVec 32 := l.foldl bt r
/-- so many steps -/
def stps : Nat → BitVec 32 → BitVec 32
  | 0, r => r
  | n + 1, r => stps n (stp r)
/-- the register takes a byte -/
def byt (r : BitVec 32) (b : UInt8) : BitVec 32 := stps 8 (r ^^^ b.toBitVec.setWidth 32)
/-- the register takes bytes -/
def run (r : BitVec 32) (l : List UInt8) : BitVec 32 := l.foldl byt r
/-- the sum goes on -/
def more (s : BitVec 32) (l : List UInt8) : BitVec 32 := ~~~ run (~~~ s) l

theorem run_append (r : BitVec 32) (a b : List UInt8) : run r (a ++ b) = run (run r a) b := by simp [run]
theorem more_append (s : BitVec 32) (a b : List UInt8) : more s (a ++ b) = more (more s a) b := by
  simp [more, run_append]
theorem run_nil (r : BitVec 32) : run r [] = r := rfl
theorem run_snoc (r : BitVec 32) (l : List UInt8) (b : UInt8) : run r (l ++ [b]) = byt (run r l) b := by simp [run]

/-! ### The step is linear, and one to one -/
theorem stp_xor (a b : BitVec 32) : stp (a ^^^ b) = stp a ^^^ stp b := by
  unfold stp
  have h : (a ^^^ b).getLsbD 0 = (a.getLsbD 0 ^^ b.getLsbD 0) := by simp
  rw [h]
  have hs : (a ^^^ b) >>> 1 = (a >>> 1) ^^^ (b >>> 1) := by
    ext i hi; simp
  rw [hs]
  cases a.getLsbD 0 <;> cases b.getLsbD 0 <;> ext i hi <;> simp
  · cases b.getLsbD (1 + i) <;> cases (3988292384#32)[i] <;> rfl
  · cases b.getLsbD (1 + i) <;> cases (3988292384#32)[i] <;> rfl

theorem stp_zero : stp 0#32 = 0#32 := by decide

theorem stp_ne (d : BitVec 32) (h : d ≠ 0#32) : stp d ≠ 0#32 := by
  intro e
  apply h
  unfold stp at e
  by_cases h0 : d.getLsbD 0 = true
  · rw [if_pos h0] at e
    have := congrArg (fun x => x.getLsbD 31) e
    simp at this
  · rw [if_neg h0] at e
    simp only [BitVec.xor_zero] at e
    ext i hi
    rcases Nat.eq_zero_or_pos i with rfl | hp
    · simpa using h0
    · have := congrArg (fun x => x.getLsbD (i - 1)) e
      simp only [BitVec.getLsbD_ushiftRight] at this
      rw [show 1 + (i - 1) = i from by omega] at this
      simpa [BitVec.getLsbD_eq_getElem hi] using this

theorem stps_xor (n : Nat) (a b : BitVec 32) : stps n (a ^^^ b) = stps n a ^^^ stps n b := by
  induction n generalizing a b with
  | zero => rfl
  | succ n ih => simp only [stps]; rw [stp_xor, ih]
theorem stps_zero (n : Nat) : stps n 0#32 = 0#32 := by
  induction n with
  | zero => rfl
  | succ n ih => simp only [stps, stp_zero]; exact ih
theorem stps_ne (n : Nat) (d : BitVec 32) (h : d ≠ 0#32) : stps n d ≠ 0#32 := by
  induction n generalizing d with
  | zero => exact h
  | succ n ih => exact ih _ (stp_ne d h)

/-! ### three texts together -/
theorem byt_three (a b c : BitVec 32) (x y z : UInt8) : byt (a ^^^ b ^^^ c) (x ^^^ y ^^^ z) = byt a x ^^^ byt b y ^^^ byt c z := by
  unfold byt
  rw [← stps_xor, ← stps_xor]
  congr 1
  have e : (x ^^^ y ^^^ z).toBitVec.setWidth 32 = x.toBitVec.setWidth 32 ^^^ y.toBitVec.setWidth 32 ^^^ z.toBitVec.setWidth 32 := by
    ext i hi; simp
  rw [e]
  ext i hi
  simp only [BitVec.getElem_xor]
  cases a[i] <;> cases b[i] <;> cases c[i] <;> simp

/-- three lists, place by place -/
def xor3 : List UInt8 → List UInt8 → List UInt8 → List UInt8
  | x :: a, y :: b, z :: c => (x ^^^ y ^^^ z) :: xor3 a b c
  | _, _, _ => []

theorem run_three (a b c : List UInt8) (hab : a.length = b.length) (hac : a.length = c.length) (r s t : BitVec 32) :
    run (r ^^^ s ^^^ t) (xor3 a b c) = run r a ^^^ run s b ^^^ run t c := by
  induction a generalizing b c r s t with
  | nil =>
    obtain rfl : b = [] := List.eq_nil_of_length_eq_zero hab.symm
    obtain rfl : c = [] := List.eq_nil_of_length_eq_zero hac.symm
    rfl
  | cons x a ih =>
    match b, c, hab, hac with
    | y :: b, z :: c, hab, hac =>
      simp only [List.length_cons, Nat.add_right_cancel_iff] at hab hac
      simp only [xor3, run, List.foldl_cons]
      rw [byt_three]
      exact ih b c hab hac _ _ _

theorem xor3_self (x : BitVec 32) : x ^^^ x ^^^ x = x := by simp

/-- CrcThree -/
theorem more_three (a b c : List UInt8) (hab : a.length = b.length) (hac : a.length = c.length) :
    more 0#32 (xor3 a b c) = more 0#32 a ^^^ more 0#32 b ^^^ more 0#32 c := by
  unfold more
  have h := run_three a b c hab hac (~~~ 0#32) (~~~ 0#32) (~~~ 0#32)
  rw [xor3_self] at h
  rw [h]
  ext i hi
  simp

/-! ### A byte is its eight bits -/
theorem stp_shl (c : BitVec 32) (h : c.getLsbD 31 = false) : stp (c <<< 1) = c := by
  unfold stp
  rw [if_neg (by simp)]
  simp only [BitVec.xor_zero]
  apply BitVec.eq_of_getLsbD_eq
  intro i hi
  simp only [BitVec.getLsbD_ushiftRight, BitVec.getLsbD_shiftLeft]
  by_cases h31 : i = 31
  · subst h31
    rw [h]
    simp
  · have : 1 + i < 32 := by omega
    simp [this]

theorem split_bit (x : BitVec 32) : x = one (x.getLsbD 0) ^^^ ((x >>> 1) <<< 1) := by
  apply BitVec.eq_of_getLsbD_eq
  intro i hi
  rcases Nat.eq_zero_or_pos i with rfl | hp
  · cases h : x.getLsbD 0 <;> simp [one]
  · have e : (one (x.getLsbD 0)).getLsbD i = false := by
      unfold one
      cases x.getLsbD 0
      · simp
      · have : ¬ i = 0 := by omega
        simp [this]
    rw [BitVec.getLsbD_xor, e]
    have h1 : ¬ i = 0 := by omega
    simp [hi, h1]
    rw [show 1 + (i - 1) = i from by omega, BitVec.getLsbD_eq_getElem hi]

/-- the lowest bits of a register, one by one -/
def low (x : BitVec 32) (n : Nat) : List Bool := (List.range n).map x.getLsbD
theorem low_succ (x : BitVec 32) (n : Nat) : low x (n + 1) = x.getLsbD 0 :: low (x >>> 1) n := by
  unfold low
  rw [List.range_succ_eq_map, List.map_cons, List.map_map]
  congr 1
  apply List.map_congr_left
  intro i _
  simp [Nat.add_comm]

theorem stps_low (n : Nat) (x : BitVec 32) (h : ∀ i, n ≤ i → x.getLsbD i = false) (r : BitVec 32) :
    stps n (r ^^^ x) = bitsRun r (low x n) := by
  induction n generalizing r x with
  | zero =>
    have : x = 0#32 := by
      apply BitVec.eq_of_getLsbD_eq
      intro i _
      simpa using h i (Nat.zero_le _)
    subst this
    simp [stps, low, bitsRun]
  | succ n ih =>
    have hs : ∀ i, n ≤ i → (x >>> 1).getLsbD i = false := fun i hi => by
      simp only [BitVec.getLsbD_ushiftRight]
      exact h _ (by omega)
    rw [low_succ]
    show stps n (stp (r ^^^ x)) = bitsRun (bt r (x.getLsbD 0)) (low (x >>> 1) n)
    rw [← ih (x >>> 1) hs]
    have e : r ^^^ x = (r ^^^ one (x.getLsbD 0)) ^^^ ((x >>> 1) <<< 1) := by
      rw [BitVec.xor_assoc]
      congr 1
      exact split_bit x
    rw [e, stp_xor, stp_shl (x >>> 1) (by simp)]
    rfl

/-- the bits of a byte, the lowest first -/
def bits8 (b : UInt8) : List Bool := low (b.toBitVec.setWidth 32) 8
theorem byt_bits (r : BitVec 32) (b : UInt8) : byt r b = bitsRun r (bits8 b) := by
  unfold byt bits8
  exact stps_low 8 _ (fun i hi => by simp; intro _; exact BitVec.getLsbD_of_ge _ _ hi) r

/-- bit p of bytes -/
def tb (l : List UInt8) (p : Nat) : Bool := ((l.getD (p / 8) 0).toBitVec).getLsbD (p % 8)
theorem bits8_eq (b : UInt8) : bits8 b = (List.range 8).map b.toBitVec.getLsbD := by
  unfold bits8 low
  apply List.map_congr_left
  intro i hi
  have := List.mem_range.1 hi
  simp
  intro _
  omega

theorem bitsRun_append (r : BitVec 32) (a b : List Bool) : bitsRun r (a ++ b) = bitsRun (bitsRun r a) b := by simp [bitsRun]
theorem range_add (n m : Nat) : List.range (n + m) = List.range n ++ (List.range m).map (n + ·) := by
  rw [List.range_add]
theorem run_bits (r : BitVec 32) (l : List UInt8) : run r l = bitsRun r ((List.range (8 * l.length)).map (tb l)) := by
  induction l generalizing r with
  | nil => rfl
  | cons x l ih =>
    show run (byt r x) l = _
    rw [ih, byt_bits, ← bitsRun_append]
    congr 1
    rw [show 8 * (x :: l).length = 8 + 8 * l.length from by simp; omega, range_add, List.map_append, bits8_eq, List.map_map]
    have e1 : (List.range 8).map x.toBitVec.getLsbD = (List.range 8).map (tb (x :: l)) := by
      apply List.map_congr_left
      intro i hi
      have hlt : i < 8 := List.mem_range.1 hi
      have h0 : i / 8 = 0 := by omega
      have h1 : i % 8 = i := by omega
      simp [tb, h0, h1]
    rw [e1]
    refine congrArg _ ?_
    · apply List.map_congr_left
      intro i _
      have h0 : (8 + i) / 8 = i / 8 + 1 := by omega
      have h1 : (8 + i) % 8 = i % 8 := by omega
      simp only [Function.comp, tb, h0, h1, List.getD_cons_succ]

theorem bitsRun_xor (a b : List Bool) (h : a.length = b.length) (r s : BitVec 32) :
    bitsRun (r ^^^ s) (List.zipWith Bool.xor a b) = bitsRun r a ^^^ bitsRun s b := by
  induction a generalizing b r s with
  | nil =>
    obtain rfl : b = [] := List.eq_nil_of_length_eq_zero h.symm
    rfl
  | cons x a ih =>
    match b, h with
    | y :: b, h =>
      simp only [List.length_cons, Nat.add_right_cancel_iff] at h
      show bitsRun (bt (r ^^^ s) (x ^^ y)) (List.zipWith Bool.xor a b) = bitsRun (bt r x) a ^^^ bitsRun (bt s y) b
      rw [← ih b h]
      congr 1
      unfold bt
      rw [← stp_xor]
      congr 1
      have e : one (x ^^ y) = one x ^^^ one y := by cases x <;> cases y <;> simp [one]
      rw [e]
      ext i hi
      simp only [BitVec.getElem_xor]
      cases r[i] <;> cases s[i] <;> cases (one x)[i] <;> cases (one y)[i] <;> rfl

theorem bitsRun_false (n : Nat) (r : BitVec 32) : bitsRun r ((List.range n).map fun _ => false) = stps n r := by
  induction n generalizing r with
  | zero => rfl
  | succ n ih =>
    rw [List.range_succ_eq_map, List.map_cons, List.map_map]
    show bitsRun (bt r false) ((List.range n).map fun _ => false) = stps n (stp r)
    rw [ih]
    simp [bt, one]

/-- two texts of one length whose bits differ in 32 bits side by side alone, and there: their registers differ -/
theorem run_turned (l m : List UInt8) (hl : m.length = l.length) (at_ : Nat) (w : BitVec 32) (hw : w ≠ 0#32) (hat : at_ + 32 ≤ 8 * l.length)
    (hm : ∀ p, p < 8 * l.length → tb m p = (tb l p ^^ (decide (at_ ≤ p ∧ p < at_ + 32) && w.getLsbD (p - at_)))) (r : BitVec 32) : run r m ≠ run r l := by
  intro e
  have hx : run r l ^^^ run r m = 0#32 := by rw [e]; simp
  rw [run_bits, run_bits, hl, ← bitsRun_xor _ _ (by simp)] at hx
  have h0 : r ^^^ r = 0#32 := by simp
  rw [h0] at hx
  have hd : List.zipWith Bool.xor ((List.range (8 * l.length)).map (tb l)) ((List.range (8 * l.length)).map (tb m)) =
      ((List.range at_).map fun _ => false) ++ low w 32 ++ ((List.range (8 * l.length - (at_ + 32))).map fun _ => false) := by
    have e1 : List.zipWith Bool.xor ((List.range (8 * l.length)).map (tb l)) ((List.range (8 * l.length)).map (tb m)) =
        (List.range (8 * l.length)).map fun p => (decide (at_ ≤ p ∧ p < at_ + 32) && w.getLsbD (p - at_)) := by
      rw [List.zipWith_map, List.zipWith_self]
      apply List.map_congr_left
      intro p hp
      rw [hm p (List.mem_range.1 hp)]
      cases tb l p <;> simp
    rw [e1]
    have e2 : 8 * l.length = at_ + 32 + (8 * l.length - (at_ + 32)) := by omega
    conv => lhs; rw [e2]
    rw [range_add, range_add, List.map_append, List.map_append, List.map_map, List.map_map]
    congr 1
    · congr 1
      · apply List.map_congr_left
        intro p hp
        have := List.mem_range.1 hp
        have : ¬ at_ ≤ p := by omega
        simp [this]
      · unfold low
        apply List.map_congr_left
        intro p hp
        have := List.mem_range.1 hp
        simp [this]
    · apply List.map_congr_left
      intro p _
      have : ¬ at_ + 32 + p < at_ + 32 := by omega
      simp [this]
  rw [hd, bitsRun_append, bitsRun_append, bitsRun_false at_, stps_zero, bitsRun_false] at hx
  have h3 := stps_low 32 w (fun i hi => BitVec.getLsbD_of_ge _ _ hi) 0#32
  rw [← h3] at hx
  refine stps_ne _ _ (stps_ne 32 _ ?_) hx
  simpa using hw

theorem more_turned (l m : List UInt8) (hl : m.length = l.length) (at_ : Nat) (w : BitVec 32) (hw : w ≠ 0#32) (hat : at_ + 32 ≤ 8 * l.length)
    (hm : ∀ p, p < 8 * l.length → tb m p = (tb l p ^^ (decide (at_ ≤ p ∧ p < at_ + 32) && w.getLsbD (p - at_)))) (s : BitVec 32) : more s m ≠ more s l := by
  intro e
  unfold more at e
  exact run_turned l m hl at_ w hw hat hm (~~~ s) (by simpa using congrArg (fun x => ~~~ x) e)

/-- one bit of a byte -/
def bit8 (k : Nat) : UInt8 := UInt8.ofNat (2 ^ k)
/-- what CrcTurned does to the bytes: so many rounds of it -/
def flips (l : List UInt8) (at_ : Nat) (w : BitVec 32) : Nat → List UInt8
  | 0 => l
  | i + 1 => if w.getLsbD i then (flips l at_ w i).set ((at_ + i) / 8) ((flips l at_ w i).getD ((at_ + i) / 8) 0 ^^^ bit8 ((at_ + i) % 8)) else flips l at_ w i
theorem flips_length (l : List UInt8) (at_ : Nat) (w : BitVec 32) (i : Nat) : (flips l at_ w i).length = l.length := by
  induction i with
  | zero => rfl
  | succ i ih =>
    unfold flips
    split
    · rw [List.length_set]; exact ih
    · exact ih
theorem bit8_bit (k i : Nat) (hk : k < 8) (hi : i < 8) : (bit8 k).toBitVec.getLsbD i = decide (i = k) := by
  have h : ∀ k : Fin 8, ∀ i : Fin 8, (bit8 k.val).toBitVec.getLsbD i.val = decide (i.val = k.val) := by decide
  exact h ⟨k, hk⟩ ⟨i, hi⟩
theorem tb_set (l : List UInt8) (q p : Nat) (hq : q < 8 * l.length) : tb (l.set (q / 8) (l.getD (q / 8) 0 ^^^ bit8 (q % 8))) p = (tb l p ^^ decide (p = q)) := by
  unfold tb
  by_cases hj : p / 8 = q / 8
  · rw [hj]
    have hlt : q / 8 < l.length := by omega
    have e : (l.set (q / 8) (l.getD (q / 8) 0 ^^^ bit8 (q % 8))).getD (q / 8) 0 = l.getD (q / 8) 0 ^^^ bit8 (q % 8) := by simp [List.getD, hlt]
    rw [e, UInt8.toBitVec_xor, BitVec.getLsbD_xor, bit8_bit _ _ (by omega) (by omega)]
    congr 1
    rw [decide_eq_decide]
    omega
  · have e : (l.set (q / 8) (l.getD (q / 8) 0 ^^^ bit8 (q % 8))).getD (p / 8) 0 = l.getD (p / 8) 0 := by
      have : ¬ q / 8 = p / 8 := fun h => hj h.symm
      simp [List.getD, this]
    have : decide (p = q) = false := by rw [decide_eq_false_iff_not]; rintro rfl; exact hj rfl
    rw [e, this]
    simp
theorem tb_flips (l : List UInt8) (at_ : Nat) (w : BitVec 32) (i : Nat) (hi : at_ + i ≤ 8 * l.length) (p : Nat) :
    tb (flips l at_ w i) p = (tb l p ^^ (decide (at_ ≤ p ∧ p < at_ + i) && w.getLsbD (p - at_))) := by
  induction i with
  | zero =>
    have e : decide (at_ ≤ p ∧ p < at_ + 0) = false := by rw [decide_eq_false_iff_not]; omega
    rw [e]
    simp [flips]
  | succ i ih =>
    have ih := ih (by omega)
    unfold flips
    by_cases hb : w.getLsbD i = true
    · rw [if_pos hb, tb_set _ _ _ (by rw [flips_length]; omega), ih]
      by_cases hp : p = at_ + i
      · subst hp
        simp [hb]
      · have e : (at_ ≤ p ∧ p < at_ + (i + 1)) ↔ (at_ ≤ p ∧ p < at_ + i) := by omega
        simp [hp, e]
    · rw [if_neg hb, ih]
      have hb' : w.getLsbD i = false := by simpa using hb
      by_cases hp : p = at_ + i
      · subst hp
        simp [hb']
      · have e : (at_ ≤ p ∧ p < at_ + (i + 1)) ↔ (at_ ≤ p ∧ p < at_ + i) := by omega
        simp [e]

/-- CrcTurned -/
theorem turned (l : List UInt8) (at_ : Nat) (w : BitVec 32) (hw : w ≠ 0#32) (hat : at_ + 32 ≤ 8 * l.length) (s : BitVec 32) :
    more s (flips l at_ w 32) ≠ more s l :=
  more_turned l _ (flips_length _ _ _ _) at_ w hw hat (fun p _ => tb_flips l at_ w 32 hat p) s

end Go.Proofs.Ytehhhclpeefnmaa.Crc
