/-
  THE WALK OF CrcThree: of three texts of one length, and the text whose every bit is turned as often as theirs together, the last one's sum is turned so, too.
-/
import Derived.Test.YtnpnonoogdiimaaCrcTurn
import Derived.Test.YtnpnonoogdiimaaDraw
import Derived.Test.YtnpnonoogdiimaaOpen
import Derived.Deep.OwnRows
import Derived.Lib.Strings
import Derived.Deep.DeepCutAuto
namespace Go.Proofs.Ytnpnonoogdiimaa
open Go.RowKit

theorem Try.infoU8 : (Try.prog.info? 5).map (fun i => (i.zero, i.size, i.bytes)) = some (some (.int .u8 0), 1, 1) := by kernel_rfl

theorem bytes_made (w : World) (n : Nat) (t : TypeId) : Bytes (w.alloc (.cells (madeCells #[.int .u8 0] n) t)) w.heap.size (List.replicate n 0) := by
  refine ⟨by simp, fun j hj => ?_, fun j _ => (Blk.new w t _).frozen j⟩
  rw [(Blk.new w t _).cell j]
  have hj' : j < n := by simpa using hj
  simp [madeCells, hj', Nat.mod_one]

theorem xor3_get (a b c d : List UInt8) (n : Nat) (ha : a.length = n) (hb : b.length = n) (hc : c.length = n) (hd : d.length = n)
    (h : ∀ j, j < n → d.getD j 0 = (a.getD j 0 ^^^ b.getD j 0 ^^^ c.getD j 0)) : d = Crc.xor3 a b c := by
  induction n generalizing a b c d with
  | zero =>
    obtain rfl := List.eq_nil_of_length_eq_zero ha
    obtain rfl := List.eq_nil_of_length_eq_zero hb
    obtain rfl := List.eq_nil_of_length_eq_zero hc
    obtain rfl := List.eq_nil_of_length_eq_zero hd
    rfl
  | succ n ih =>
    match a, b, c, d, ha, hb, hc, hd with
    | x :: a, y :: b, z :: c, u :: d, ha, hb, hc, hd =>
      simp only [List.length_cons, Nat.add_right_cancel_iff] at ha hb hc hd
      have h0 := h 0 (by omega)
      simp only [List.getD_cons_zero] at h0
      subst h0
      simp only [Crc.xor3]
      congr 1
      exact ih a b c d ha hb hc hd fun j hj => by simpa using h (j + 1) (by omega)

theorem xor_u8u8 (x y z : UInt8) : bits .xor .u8 (bits .xor .u8 (x.toNat : Int) (y.toNat : Int)) (z.toNat : Int) = ((x ^^^ y ^^^ z).toNat : Int) := by
  rw [u8_xor_nat _ _ x.toNat_lt y.toNat_lt, ← UInt8.toNat_xor, u8_xor_nat _ _ (x ^^^ y).toNat_lt z.toNat_lt, ← UInt8.toNat_xor]

/-- one text in a list of its own -/
def OneS (W : World) (v : Value) (s : ByteArray) : Prop := ∃ ad, v = .slice (some ad) 1 1 ∧ W.cell? ad = some (.string s)
/-- what the last statement's operations yield -/
def ThrV (g k : Nat) (L : List UInt8) (a b c : ByteArray) : Nat → Value → World → Prop
  | 0, v, _ => v = .slice (some ⟨g, 0, none⟩) k k
  | 1, v, _ => v = .string ⟨L.toArray⟩
  | 2, v, W => OneS W v ⟨L.toArray⟩
  | 3, v, _ => v = .int .u32 (Crc.more 0#32 L).toNat
  | 4, v, _ => v = .string a
  | 5, v, _ => v = .int .i64 k
  | 6, v, _ => v = .string (a.extract 0 k)
  | 7, v, W => OneS W v (a.extract 0 k)
  | 8, v, _ => v = .int .u32 (Crc.more 0#32 (a.data.toList.take k)).toNat
  | 9, v, _ => v = .string b
  | 10, v, _ => v = .int .i64 k
  | 11, v, _ => v = .string (b.extract 0 k)
  | 12, v, W => OneS W v (b.extract 0 k)
  | 13, v, _ => v = .int .u32 (Crc.more 0#32 (b.data.toList.take k)).toNat
  | 14, v, _ => v = .int .u32 (Crc.more 0#32 (a.data.toList.take k) ^^^ Crc.more 0#32 (b.data.toList.take k)).toNat
  | 15, v, _ => v = .string c
  | 16, v, _ => v = .int .i64 k
  | 17, v, _ => v = .string (c.extract 0 k)
  | 18, v, W => OneS W v (c.extract 0 k)
  | 19, v, _ => v = .int .u32 (Crc.more 0#32 (c.data.toList.take k)).toNat
  | 20, v, _ => v = .int .u32 (Crc.more 0#32 (a.data.toList.take k) ^^^ Crc.more 0#32 (b.data.toList.take k) ^^^ Crc.more 0#32 (c.data.toList.take k)).toNat
  | 21, v, _ => v = .bool true
  | 22, v, _ => v = .bool true
  | _, _, _ => False

theorem cell_old {W : World} {ad : Addr} {s : Value} {o : Obj} (h : W.cell? ad = some s) : (W.alloc o).cell? ad = some s := by
  have := Below.heap_alloc W o ad.block (block_lt h)
  rw [World.cell?_of_block this]
  exact h
theorem cell_new (W : World) (t : TypeId) (v : Value) : (W.alloc (.cells #[v] t)).cell? ⟨W.heap.size, 0, none⟩ = some v := by
  rw [(Blk.new W t _).cell 0]
  rfl
section
variable {F : Act} {W : World} {dst : Option Tmp} {ty : TypeId} {pos : String} {after : Array Edge} {guard : Option (Nat × Bool)}
theorem conv_run {t : Tmp} {u v s : Value} {t1 t2 : TypeId} (ht : F.eval (.tmp t) = u) (hv : u = v) (h : (convert t1 t2 v).run Try.prog W = .ok s W) :
    (execOp F.eval { dst := dst, op := .convert t1 t2 (.tmp t), type := ty, pos := pos, after := after, guard := guard }).run Try.prog W = .ok (.value s) W := by
  subst hv
  unfold execOp
  simp only [ht]
  go_simp
theorem tmp_of {t : Tmp} {u : Value} (h : F.eval (.tmp t) = u) : F.tmps[t]?.getD undef = u := by simpa [Act.eval] using h
theorem build_run {t : Tmp} {u : Value} {s : ByteArray} (ht : F.eval (.tmp t) = u) (hv : u = .string s) :
    (execOp F.eval { dst := dst, op := .buildSlice 23 1 #[(0, .tmp t)], type := ty, pos := pos, after := after, guard := guard }).run Try.prog W = .ok (.value (.slice (some ⟨W.heap.size, 0, none⟩) 1 1)) (W.alloc (.cells #[.string s] 9)) := by
  subst hv
  have h1 := tmp_of ht
  unfold execOp
  go_simp
theorem call_run {t : Tmp} {u : Value} {ats : Array TypeId} (ht : F.eval (.tmp t) = u) :
    (execOp F.eval { dst := dst, op := .call { callee := .value (.func 9), args := #[.tmp t], argTypes := ats }, type := ty, pos := pos, after := after, guard := guard }).run Try.prog W = .ok (.enter 9 #[u]) W := by
  have h1 := tmp_of ht
  unfold execOp
  go_simp
theorem slice_run {t t' : Tmp} {u u' : Value} {s : ByteArray} {k : Nat} (ht : F.eval (.tmp t) = u) (ht' : F.eval (.tmp t') = u') (hv : u = .string s) (hv' : u' = .int .i64 k) (hk : k ≤ s.size) :
    (execOp F.eval { dst := dst, op := .slice 9 (.tmp t) none (some (.tmp t')) none, type := ty, pos := pos, after := after, guard := guard }).run Try.prog W = .ok (.value (.string (s.extract 0 k))) W := by
  subst hv hv'
  have h1 := tmp_of ht
  have h2 := tmp_of ht'
  unfold execOp
  go_simp
theorem xor_run {t t' : Tmp} {u u' : Value} {x y : BitVec 32} (ht : F.eval (.tmp t) = u) (ht' : F.eval (.tmp t') = u') (hv : u = .int .u32 x.toNat) (hv' : u' = .int .u32 y.toNat) :
    (execOp F.eval { dst := dst, op := .binOp .xor 22 (.tmp t) (.tmp t') 22, type := ty, pos := pos, after := after, guard := guard }).run Try.prog W = .ok (.value (.int .u32 (x ^^^ y).toNat)) W := by
  subst hv hv'
  have h1 := tmp_of ht
  have h2 := tmp_of ht'
  unfold execOp
  go_simp
  exact u32_xor_nat _ _ (u32_lt x) (u32_lt y)
theorem eql_run {t t' : Tmp} {u u' : Value} {x y : BitVec 32} (ht : F.eval (.tmp t) = u) (ht' : F.eval (.tmp t') = u') (hv : u = .int .u32 x.toNat) (hv' : u' = .int .u32 y.toNat) (e : x = y) :
    (execOp F.eval { dst := dst, op := .binOp .eql 22 (.tmp t) (.tmp t') 22, type := ty, pos := pos, after := after, guard := guard }).run Try.prog W = .ok (.value (.bool true)) W := by
  subst hv hv' e
  have h1 := tmp_of ht
  have h2 := tmp_of ht'
  unfold execOp
  go_simp
end

set_option maxHeartbeats 2000000 in
theorem crcThree_walk (w : World) (a : ByteArray) (ha : a.size ≤ maxLen) (b : ByteArray) (hb : b.size ≤ maxLen) (c : ByteArray) (hc : c.size ≤ maxLen) :
    Calls Try.prog 6 #[.string a, .string b, .string c] w fun e w' => e = .returned (.bool true) ∧ Below w.heap.size w w' := by
  unfold maxLen at ha hb hc
  obtain ⟨n, hn, hna, hnb, hnc⟩ : ∃ n : Nat, (n : Int) = min (min (a.size : Int) b.size) c.size ∧ n ≤ a.size ∧ n ≤ b.size ∧ n ≤ c.size := ⟨min (min a.size b.size) c.size, by omega, by omega, by omega, by omega⟩
  go_enter Try.func6, Try.ntmps6
  go_upto_region 1 with fail
  go_cut [7] (fun s7 wx => s7 = .int .i64 n ∧ w = wx)
  case first =>
    go_wp2
    all_goals (go_meet; exact ⟨by first | (congr 1; omega) | skip, rfl⟩)
  case rest =>
  obtain ⟨rfl, rfl⟩ := hcut
  clear hn
  by_cases h4 : (4096 : Int) < n
  · go_wp2_with fail
    refine (awake_any _).mono ?_
    rintro e w1 ⟨rfl, hb1⟩
    go_wp2_with fail
    refine (awake_any _).mono ?_
    rintro e w2 ⟨rfl, hb2⟩
    go_wp2
    go_ret
    exact ⟨rfl, hb1.trans (hb2.mono hb1.size)⟩
  · go_wp2_with fail
    refine (awake_any _).mono ?_
    rintro e w1 ⟨rfl, hb1⟩
    have hmk := run_make_row' (P := Try.prog) 34 5 (.int .u8 0) 1 Try.underlying34 Try.infoU8 rfl .i64 .i64 n (by omega) (by omega)
    have d1 : decide ((4096 : Int) < n) = false := by simpa using h4
    go_wp2_with fail
    have hby := bytes_made w1 n 5
    have hb0 : Below w.heap.size w (w1.alloc (.cells (madeCells #[.int .u8 0] n) 5)) := hb1.alloc hb1.size _
    obtain ⟨W, hW⟩ : ∃ W, W = w1.alloc (.cells (madeCells #[.int .u8 0] n) 5) := ⟨_, rfl⟩
    obtain ⟨g, hg⟩ : ∃ g, g = w1.heap.size := ⟨_, rfl⟩
    rw [← hW, ← hg]
    rw [← hW] at hb0
    rw [← hW, ← hg] at hby
    have hgw : w.heap.size ≤ g := by rw [hg]; exact hb1.size
    clear hW hg hmk
    have HBY := Lib.hid hby
    have HB0 := Lib.hid hb0
    clear hby hb0 hb1
    go_loopw [28] (fun i wr => ∃ (k : Nat) (L : List UInt8), k ≤ n ∧ i = .int .i64 k ∧ L.length = n ∧ Bytes wr g L ∧ (∀ j, j < k → L.getD j 0 = (a.data.toList.getD j 0 ^^^ b.data.toList.getD j 0 ^^^ c.data.toList.getD j 0)) ∧ Below w.heap.size w wr) (fun i _ => n - (intOf i).toNat)
    case atStart => exact ⟨0, _, by omega, rfl, by simp, HBY.out, fun j hj => absurd hj (by omega), HB0.out⟩
    case round =>
      obtain ⟨k, L, hk, rfl, hlen, hbk, hpt, hbw⟩ := hrel
      have HL := Lib.hid hlen
      have HP := Lib.hid hpt
      have HK := Lib.hid hbk
      clear hpt
      by_cases hk2 : k < n
      · have hcell := hbk.cell k (by omega)
        have hfree := hbk.free k (by omega)
        obtain ⟨v, hv⟩ : ∃ v, v = L[k] := ⟨_, rfl⟩
        rw [← hv] at hcell
        have hka : k < a.size := by omega
        have hkb : k < b.size := by omega
        have hkc : k < c.size := by omega
        clear hv hlen hbk
        go_wp2
        go_region
        rw [xor_u8u8]
        obtain ⟨u, hu⟩ : ∃ u, u = a[k] ^^^ b[k] ^^^ c[k] := ⟨_, rfl⟩
        rw [← hu]
        have HU := Lib.hid hu
        clear hu
        go_wp2
        go_roundw
        case rel =>
          refine ⟨k + 1, L.set k u, by omega, by go_num, by rw [List.length_set]; exact HL.out, (HK.out.set k (by have := HL.out; omega) u).drew, fun j hj => ?_, (hbw.setCell (by simpa using hgw) _).drew⟩
          by_cases hjk : j = k
          · subst hjk
            have h1 : (L.set j u).getD j 0 = u := by simp [List.getD, HL.out, hk2]
            have h2 : a.data.toList.getD j 0 = a[j] := by
              rw [List.getD, List.getElem?_eq_getElem (by simpa using hka)]
              rfl
            have h3 : b.data.toList.getD j 0 = b[j] := by
              rw [List.getD, List.getElem?_eq_getElem (by simpa using hkb)]
              rfl
            have h4 : c.data.toList.getD j 0 = c[j] := by
              rw [List.getD, List.getElem?_eq_getElem (by simpa using hkc)]
              rfl
            rw [h1, h2, h3, h4]
            exact HU.out
          · have h1 : (L.set k u).getD j 0 = L.getD j 0 := by
              have : ¬ k = j := fun e => hjk e.symm
              simp [List.getD, this]
            rw [h1]
            exact HP.out j (by omega)
        case measure => simp [intOf]; omega
      · obtain rfl : k = n := by omega
        have hcv : ∀ W, Bytes W g L → (convert 34 9 (.slice (some ⟨g, 0, none⟩) k k)).run Try.prog W = .ok (.string ⟨L.toArray⟩) W := fun W hW => by
          have h := hW.text (P := Try.prog) 34 5 9 Try.underlying34 Try.underlying5 Try.underlying9 k
          rw [hlen] at h
          exact h
        have hx : (⟨L.toArray⟩ : ByteArray).size ≤ maxLen := by simp [ByteArray.size]; rw [hlen]; unfold maxLen; omega
        have H1 : ∀ (ad : Addr) (W : World), W.cell? ad = some (.string ⟨L.toArray⟩) → Calls Try.prog 9 #[.slice (some ad) 1 1] W fun e w' => e = .returned (.int .u32 (Crc.more 0#32 L).toNat) ∧ W = w' := fun ad W had => by
          have h := crcSum_one _ ad W 1 hx had
          simpa using h
        have H1' := Lib.hid H1
        have H2 : ∀ (x : ByteArray) (ad : Addr) (W : World), x.size ≤ maxLen → W.cell? ad = some (.string (x.extract 0 k)) → Calls Try.prog 9 #[.slice (some ad) 1 1] W fun e w' => e = .returned (.int .u32 (Crc.more 0#32 (x.data.toList.take k)).toNat) ∧ W = w' := fun x ad W hxs had => by
          have h := crcSum_one _ ad W 1 (by rw [ByteArray.size_extract]; omega) had
          rw [Lib.extract_data] at h
          simpa using h
        have H2' := Lib.hid H2
        have HA : Hid (a.size ≤ maxLen) := by unfold maxLen; exact ha
        have HB : Hid (b.size ≤ maxLen) := by unfold maxLen; exact hb
        have HC : Hid (c.size ≤ maxLen) := by unfold maxLen; exact hc
        have HCV := Lib.hid hcv
        have hsum : Crc.more 0#32 L = Crc.more 0#32 (a.data.toList.take k) ^^^ Crc.more 0#32 (b.data.toList.take k) ^^^ Crc.more 0#32 (c.data.toList.take k) := by
          have tl : ∀ x : ByteArray, k ≤ x.size → (x.data.toList.take k).length = k := fun x hx => by rw [List.length_take, Array.length_toList]; exact Nat.min_eq_left hx
          have tg : ∀ (x : ByteArray) (j : Nat), j < k → (x.data.toList.take k).getD j 0 = x.data.toList.getD j 0 := fun x j hj => by simp [List.getD, hj]
          rw [← Crc.more_three _ _ _ (by rw [tl a hna, tl b hnb]) (by rw [tl a hna, tl c hnc])]
          congr 1
          refine xor3_get _ _ _ _ k (tl a hna) (tl b hnb) (tl c hnc) hlen fun j hj => ?_
          rw [tg a j hj, tg b j hj, tg c j hj]
          exact HP.out j hj
        have HEQ := Lib.hid hsum
        have hbk' : Bytes { wr with drawn := wr.drawn + 1 } g L := hbk.drew
        have hbw' : Below w.heap.size w { wr with drawn := wr.drawn + 1 } := hbw.drew
        clear H1 H2 hx hlen hbk hcv hsum
        go_wp2_with fail
        refine wp_region_yields (by kernel_rfl) (ThrV g k L a b c) (fun W => Bytes W g L ∧ Below w.heap.size w W) (fun W W' => ∀ ad s, W.cell? ad = some (.string s) → W'.cell? ad = some (.string s)) (by kernel_rfl) ?hG ?hmono ?hstep ?hend
        case hG => exact ⟨hbk', hbw'⟩
        case hmono =>
          intro i v W W' hx hv
          have one : ∀ s, OneS W v s → OneS W' v s := fun s ⟨ad, h1, h2⟩ => ⟨ad, h1, hx ad s h2⟩
          match i with
          | 2 => exact one _ hv
          | 7 => exact one _ hv
          | 12 => exact one _ hv
          | 18 => exact one _ hv
          | 0 | 1 | 3 | 4 | 5 | 6 | 8 | 9 | 10 | 11 | 13 | 14 | 15 | 16 | 17 | 19 | 20 | 21 | 22 => exact hv
          | i + 23 => exact hv
        case hstep =>
          intro i o F U W ho hGW hat hoff hp
          match i with
          | 0 =>
            injection (show some _ = some o from ho) with ho
            subst ho
            exact wp_move' (.tmp 8) rfl ⟨_, rfl, (hoff 8 (of_decide_eq_true (by kernel_rfl))).trans rfl, hGW, fun _ _ h => h⟩
          | 1 =>
            injection (show some _ = some o from ho) with ho
            subst ho
            have hv0 : ThrV g k L a b c 0 (U 0) W := hp ⟨0, .data⟩ (by simp) rfl
            have ht0 := hat 0 46 (of_decide_eq_true (by kernel_rfl)) rfl
            clear hat hoff hp
            exact wp_value' (.string ⟨L.toArray⟩) W (conv_run ht0 hv0 (HCV.out W hGW.1)) ⟨_, rfl, rfl, hGW, fun _ _ h => h⟩
          | 2 =>
            injection (show some _ = some o from ho) with ho
            subst ho
            have hv1 : ThrV g k L a b c 1 (U 1) W := hp ⟨1, .data⟩ (by simp) rfl
            have ht1 := hat 1 47 (of_decide_eq_true (by kernel_rfl)) rfl
            clear hat hoff hp
            exact wp_value' _ _ (build_run ht1 hv1) ⟨_, rfl, ⟨_, rfl, cell_new W _ _⟩, ⟨hGW.1.alloc _, hGW.2.alloc hGW.2.size _⟩, fun _ _ h => cell_old h⟩
          | 3 =>
            injection (show some _ = some o from ho) with ho
            subst ho
            have hv2 : ThrV g k L a b c 2 (U 2) W := hp ⟨2, .data⟩ (by simp) rfl
            have ht2 := hat 2 48 (of_decide_eq_true (by kernel_rfl)) rfl
            clear hat hoff hp
            obtain ⟨ad, hu, hc⟩ := hv2
            refine wp_enter' 9 #[U 2] (call_run ht2) ?_
            rw [hu]
            refine (H1'.out ad W hc).mono ?_
            rintro e W' ⟨rfl, rfl⟩
            exact ⟨_, rfl, _, rfl, rfl, hGW, fun _ _ h => h⟩
          | 4 =>
            injection (show some _ = some o from ho) with ho
            subst ho
            exact wp_move' (.tmp 0) rfl ⟨_, rfl, (hoff 0 (of_decide_eq_true (by kernel_rfl))).trans rfl, hGW, fun _ _ h => h⟩
          | 5 =>
            injection (show some _ = some o from ho) with ho
            subst ho
            exact wp_move' (.tmp 7) rfl ⟨_, rfl, (hoff 7 (of_decide_eq_true (by kernel_rfl))).trans rfl, hGW, fun _ _ h => h⟩
          | 6 =>
            injection (show some _ = some o from ho) with ho
            subst ho
            have hv4 : ThrV g k L a b c 4 (U 4) W := hp ⟨4, .data⟩ (by simp) rfl
            have hv5 : ThrV g k L a b c 5 (U 5) W := hp ⟨5, .data⟩ (by simp) rfl
            have ht4 := hat 4 50 (of_decide_eq_true (by kernel_rfl)) rfl
            have ht5 := hat 5 51 (of_decide_eq_true (by kernel_rfl)) rfl
            clear hat hoff hp
            exact wp_value' (.string (a.extract 0 k)) W (slice_run ht4 ht5 hv4 hv5 hna) ⟨_, rfl, rfl, hGW, fun _ _ h => h⟩
          | 7 =>
            injection (show some _ = some o from ho) with ho
            subst ho
            have hv6 : ThrV g k L a b c 6 (U 6) W := hp ⟨6, .data⟩ (by simp) rfl
            have ht6 := hat 6 52 (of_decide_eq_true (by kernel_rfl)) rfl
            clear hat hoff hp
            exact wp_value' _ _ (build_run ht6 hv6) ⟨_, rfl, ⟨_, rfl, cell_new W _ _⟩, ⟨hGW.1.alloc _, hGW.2.alloc hGW.2.size _⟩, fun _ _ h => cell_old h⟩
          | 8 =>
            injection (show some _ = some o from ho) with ho
            subst ho
            have hv7 : ThrV g k L a b c 7 (U 7) W := hp ⟨7, .data⟩ (by simp) rfl
            have ht7 := hat 7 53 (of_decide_eq_true (by kernel_rfl)) rfl
            clear hat hoff hp
            obtain ⟨ad, hu, hc⟩ := hv7
            refine wp_enter' 9 #[U 7] (call_run ht7) ?_
            rw [hu]
            refine (H2'.out a ad W HA.out hc).mono ?_
            rintro e W' ⟨rfl, rfl⟩
            exact ⟨_, rfl, _, rfl, rfl, hGW, fun _ _ h => h⟩
          | 9 =>
            injection (show some _ = some o from ho) with ho
            subst ho
            exact wp_move' (.tmp 1) rfl ⟨_, rfl, (hoff 1 (of_decide_eq_true (by kernel_rfl))).trans rfl, hGW, fun _ _ h => h⟩
          | 10 =>
            injection (show some _ = some o from ho) with ho
            subst ho
            exact wp_move' (.tmp 7) rfl ⟨_, rfl, (hoff 7 (of_decide_eq_true (by kernel_rfl))).trans rfl, hGW, fun _ _ h => h⟩
          | 11 =>
            injection (show some _ = some o from ho) with ho
            subst ho
            have hv9 : ThrV g k L a b c 9 (U 9) W := hp ⟨9, .data⟩ (by simp) rfl
            have hv10 : ThrV g k L a b c 10 (U 10) W := hp ⟨10, .data⟩ (by simp) rfl
            have ht9 := hat 9 55 (of_decide_eq_true (by kernel_rfl)) rfl
            have ht10 := hat 10 56 (of_decide_eq_true (by kernel_rfl)) rfl
            clear hat hoff hp
            exact wp_value' (.string (b.extract 0 k)) W (slice_run ht9 ht10 hv9 hv10 hnb) ⟨_, rfl, rfl, hGW, fun _ _ h => h⟩
          | 12 =>
            injection (show some _ = some o from ho) with ho
            subst ho
            have hv11 : ThrV g k L a b c 11 (U 11) W := hp ⟨11, .data⟩ (by simp) rfl
            have ht11 := hat 11 57 (of_decide_eq_true (by kernel_rfl)) rfl
            clear hat hoff hp
            exact wp_value' _ _ (build_run ht11 hv11) ⟨_, rfl, ⟨_, rfl, cell_new W _ _⟩, ⟨hGW.1.alloc _, hGW.2.alloc hGW.2.size _⟩, fun _ _ h => cell_old h⟩
          | 13 =>
            injection (show some _ = some o from ho) with ho
            subst ho
            have hv12 : ThrV g k L a b c 12 (U 12) W := hp ⟨12, .data⟩ (by simp) rfl
            have ht12 := hat 12 58 (of_decide_eq_true (by kernel_rfl)) rfl
            clear hat hoff hp
            obtain ⟨ad, hu, hc⟩ := hv12
            refine wp_enter' 9 #[U 12] (call_run ht12) ?_
            rw [hu]
            refine (H2'.out b ad W HB.out hc).mono ?_
            rintro e W' ⟨rfl, rfl⟩
            exact ⟨_, rfl, _, rfl, rfl, hGW, fun _ _ h => h⟩
          | 14 =>
            injection (show some _ = some o from ho) with ho
            subst ho
            have hv8 : ThrV g k L a b c 8 (U 8) W := hp ⟨8, .data⟩ (by simp) rfl
            have hv13 : ThrV g k L a b c 13 (U 13) W := hp ⟨13, .data⟩ (by simp) rfl
            have ht8 := hat 8 54 (of_decide_eq_true (by kernel_rfl)) rfl
            have ht13 := hat 13 59 (of_decide_eq_true (by kernel_rfl)) rfl
            clear hat hoff hp
            exact wp_value' _ W (xor_run ht8 ht13 hv8 hv13) ⟨_, rfl, rfl, hGW, fun _ _ h => h⟩
          | 15 =>
            injection (show some _ = some o from ho) with ho
            subst ho
            exact wp_move' (.tmp 2) rfl ⟨_, rfl, (hoff 2 (of_decide_eq_true (by kernel_rfl))).trans rfl, hGW, fun _ _ h => h⟩
          | 16 =>
            injection (show some _ = some o from ho) with ho
            subst ho
            exact wp_move' (.tmp 7) rfl ⟨_, rfl, (hoff 7 (of_decide_eq_true (by kernel_rfl))).trans rfl, hGW, fun _ _ h => h⟩
          | 17 =>
            injection (show some _ = some o from ho) with ho
            subst ho
            have hv15 : ThrV g k L a b c 15 (U 15) W := hp ⟨15, .data⟩ (by simp) rfl
            have hv16 : ThrV g k L a b c 16 (U 16) W := hp ⟨16, .data⟩ (by simp) rfl
            have ht15 := hat 15 61 (of_decide_eq_true (by kernel_rfl)) rfl
            have ht16 := hat 16 62 (of_decide_eq_true (by kernel_rfl)) rfl
            clear hat hoff hp
            exact wp_value' (.string (c.extract 0 k)) W (slice_run ht15 ht16 hv15 hv16 hnc) ⟨_, rfl, rfl, hGW, fun _ _ h => h⟩
          | 18 =>
            injection (show some _ = some o from ho) with ho
            subst ho
            have hv17 : ThrV g k L a b c 17 (U 17) W := hp ⟨17, .data⟩ (by simp) rfl
            have ht17 := hat 17 63 (of_decide_eq_true (by kernel_rfl)) rfl
            clear hat hoff hp
            exact wp_value' _ _ (build_run ht17 hv17) ⟨_, rfl, ⟨_, rfl, cell_new W _ _⟩, ⟨hGW.1.alloc _, hGW.2.alloc hGW.2.size _⟩, fun _ _ h => cell_old h⟩
          | 19 =>
            injection (show some _ = some o from ho) with ho
            subst ho
            have hv18 : ThrV g k L a b c 18 (U 18) W := hp ⟨18, .data⟩ (by simp) rfl
            have ht18 := hat 18 64 (of_decide_eq_true (by kernel_rfl)) rfl
            clear hat hoff hp
            obtain ⟨ad, hu, hc⟩ := hv18
            refine wp_enter' 9 #[U 18] (call_run ht18) ?_
            rw [hu]
            refine (H2'.out c ad W HC.out hc).mono ?_
            rintro e W' ⟨rfl, rfl⟩
            exact ⟨_, rfl, _, rfl, rfl, hGW, fun _ _ h => h⟩
          | 20 =>
            injection (show some _ = some o from ho) with ho
            subst ho
            have hv14 : ThrV g k L a b c 14 (U 14) W := hp ⟨14, .data⟩ (by simp) rfl
            have hv19 : ThrV g k L a b c 19 (U 19) W := hp ⟨19, .data⟩ (by simp) rfl
            have ht14 := hat 14 60 (of_decide_eq_true (by kernel_rfl)) rfl
            have ht19 := hat 19 65 (of_decide_eq_true (by kernel_rfl)) rfl
            clear hat hoff hp
            exact wp_value' _ W (xor_run ht14 ht19 hv14 hv19) ⟨_, rfl, rfl, hGW, fun _ _ h => h⟩
          | 21 =>
            injection (show some _ = some o from ho) with ho
            subst ho
            have hv3 : ThrV g k L a b c 3 (U 3) W := hp ⟨3, .data⟩ (by simp) rfl
            have hv20 : ThrV g k L a b c 20 (U 20) W := hp ⟨20, .data⟩ (by simp) rfl
            have ht3 := hat 3 49 (of_decide_eq_true (by kernel_rfl)) rfl
            have ht20 := hat 20 66 (of_decide_eq_true (by kernel_rfl)) rfl
            clear hat hoff hp
            exact wp_value' (.bool true) W (eql_run ht3 ht20 hv3 hv20 HEQ.out) ⟨_, rfl, rfl, hGW, fun _ _ h => h⟩
          | 22 =>
            injection (show some _ = some o from ho) with ho
            subst ho
            have hv21 : ThrV g k L a b c 21 (U 21) W := hp ⟨21, .data⟩ (by simp) rfl
            have ht21 := hat 21 67 (of_decide_eq_true (by kernel_rfl)) rfl
            clear hat hoff hp
            exact wp_assign' (.tmp 67) rfl ⟨_, rfl, ht21.trans hv21, hGW, fun _ _ h => h⟩
          | i + 23 => exact absurd ho (by simp)
        case hend =>
          intro U W hGW hV
          have h6 := hV 22 (of_decide_eq_true (by kernel_rfl))
          simp only [ThrV] at h6
          have hbW := hGW.2
          clear hV hGW
          have HBW := Lib.hid hbW
          clear hbW
          simp [putU, dstAt, Act.put, Exit.then, h6]
          go_wp2
          go_ret
          exact ⟨rfl, HBW.out⟩

end Go.Proofs.Ytnpnonoogdiimaa
