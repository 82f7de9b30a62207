/-
  THE WALKS OF FRAMES: the reference's number, frame and frames.
-/
import Derived.Test.YtehhhclpeefnmaaFrSeal
import Derived.Test.YtehhhclpeefnmaaBytes
import Derived.Test.YtehhhclpeefnmaaRefSum
import Derived.Test.YtehhhclpeefnmaaDraw
namespace Go.Proofs.Ytehhhclpeefnmaa
open Go.RowKit

theorem bytes_blk {W : World} {g : Nat} {t : TypeId} {l : List UInt8} (h : Blk W g t (Lib.byteCells l).toArray) : Bytes W g l := by
  refine ⟨h.lt, fun j hj => ?_, fun j _ => h.frozen j⟩
  rw [h.cell j]
  simp [Lib.byteCells, hj]
theorem conv1 (W : World) (v : Int) (c : UInt8) (hc : v = (c.toNat : Int)) :
    (convert 31 9 (.slice (some ⟨W.heap.size, 0, none⟩) 1 1)).run Try.prog (W.alloc (.cells #[.int .u8 v] 5)) = .ok (.string ⟨#[c]⟩) (W.alloc (.cells #[.int .u8 v] 5)) := by
  subst hc
  have h := (bytes_blk (l := [c]) (Blk.new W 5 (Lib.byteCells [c]).toArray)).text (P := Try.prog) 31 5 9 Try.underlying31 Try.underlying5 Try.underlying9 1
  exact h
theorem conv4 (W : World) (x : BitVec 32) :
    (convert 31 9 (.slice (some ⟨W.heap.size, 0, none⟩) 4 4)).run Try.prog (W.alloc (.cells #[.int .u8 ((x.toNat : Int) % 256), .int .u8 ((x.toNat : Int) / 256 % 256), .int .u8 ((x.toNat : Int) / 65536 % 256), .int .u8 ((x.toNat : Int) / 16777216)] 5)) = .ok (.string ⟨(Fr.le4 x).toArray⟩) (W.alloc (.cells #[.int .u8 ((x.toNat : Int) % 256), .int .u8 ((x.toNat : Int) / 256 % 256), .int .u8 ((x.toNat : Int) / 65536 % 256), .int .u8 ((x.toNat : Int) / 16777216)] 5)) := by
  have e := le4_cells x
  have e2 : (#[.int .u8 ((x.toNat : Int) % 256), .int .u8 ((x.toNat : Int) / 256 % 256), .int .u8 ((x.toNat : Int) / 65536 % 256), .int .u8 ((x.toNat : Int) / 16777216)] : Array Value) = (Lib.byteCells (Fr.le4 x)).toArray := by rw [← e]
  rw [e2]
  exact (bytes_blk (l := Fr.le4 x) (Blk.new W 5 (Lib.byteCells (Fr.le4 x)).toArray)).text (P := Try.prog) 31 5 9 Try.underlying31 Try.underlying5 Try.underlying9 4
theorem str_cat (l m : List UInt8) : (⟨l.toArray⟩ : ByteArray) ++ (⟨m.toArray⟩ : ByteArray) = ⟨(l ++ m).toArray⟩ := by
  apply ByteArray.ext
  simp [ByteArray.data_append]

set_option maxHeartbeats 1000000 in
/-- the reference's number -/
theorem refNum_any (n : Nat) (w : World) (hn : n ≤ 1099511627776) :
    Calls Try.prog 33 #[.int .i64 n] w fun e w' => e = .returned (.string ⟨(Fr.enc (2 * n)).toArray⟩) ∧ Below w.heap.size w w' := by
  go_enter Try.func33, Try.ntmps33
  go_wp2_with fail
  go_loopw [3, 4] (fun v o wr => ∃ (z : Nat) (done : List UInt8), v = .int .u64 z ∧ o = .string ⟨done.toArray⟩ ∧ z ≤ 2 * n ∧ Fr.enc (2 * n) = done ++ Fr.enc z ∧ Below w.heap.size w wr) (fun v _ _ => (intOf v).toNat)
  case atStart => exact ⟨2 * n, [], by go_num, rfl, Nat.le_refl _, rfl, Below.refl _ _⟩
  case round =>
    obtain ⟨z, done, rfl, rfl, hzn, henc, hbw⟩ := hrel
    have HE := Lib.hid henc
    have HBW := Lib.hid hbw
    have h1 := Fr.enc_pos z
    have hdl : done.length ≤ 100 := by have := Fr.enc_small (2 * n) (by omega); rw [henc, List.length_append] at this; omega
    have hds := size_list done
    clear henc hbw
    by_cases hz : (128 : Int) ≤ z
    · obtain ⟨u, hu⟩ : ∃ u, u = UInt8.ofNat (z % 128 + 128) := ⟨_, rfl⟩
      have hu2 : (z : Int) % 128 + 128 = (u.toNat : Int) := by rw [hu]; simp; omega
      have hcv := conv1 wr _ _ hu2
      have hba : Below wr.heap.size wr (wr.alloc (.cells #[.int .u8 ((z : Int) % 128 + 128)] 5)) := (Below.refl _ _).alloc (Nat.le_refl _) _
      have HBA := Lib.hid hba
      have HU := Lib.hid hu
      clear hba hu hu2
      go_wp2
      go_roundw
      case rel =>
        refine ⟨z / 128, done ++ [u], by go_num, by rw [← str_cat], by omega, ?_, HBW.out.trans (HBA.out.mono HBW.out.size)⟩
        rw [HE.out, Fr.enc_ge (by omega), HU.out]; simp
      case measure => simp [intOf]; omega
    · obtain ⟨u, hu⟩ : ∃ u, u = UInt8.ofNat z := ⟨_, rfl⟩
      have hu2 : (z : Int) = (u.toNat : Int) := by rw [hu]; simp; omega
      have hcv := conv1 wr _ _ hu2
      have hba : Below wr.heap.size wr (wr.alloc (.cells #[.int .u8 (z : Int)] 5)) := (Below.refl _ _).alloc (Nat.le_refl _) _
      have hs : (⟨done.toArray⟩ : ByteArray) ++ (⟨#[u]⟩ : ByteArray) = ⟨(Fr.enc (2 * n)).toArray⟩ := by
        rw [HE.out, Fr.enc_lt (by omega), ← hu, ← str_cat]
      have HS := Lib.hid hs
      have HBA := Lib.hid hba
      clear hba hu hu2 hs
      go_wp2
      go_ret
      exact ⟨congrArg (fun s => Ending.returned (.string s)) HS.out, HBW.out.trans (HBA.out.mono HBW.out.size)⟩

/-- what the last statement of One's operations yield -/
def OneV (s : ByteArray) (x : BitVec 32) : Nat → Value → World → Prop
  | 0, v, _ => v = .string s
  | 1, v, _ => v = .int .i64 s.size
  | 2, v, _ => v = .string ⟨(Fr.enc (2 * s.size)).toArray⟩
  | 3, v, _ => v = .int .u32 x.toNat
  | 4, v, _ => v = .int .u8 ((x.toNat : Int) % 256)
  | 5, v, _ => v = .int .u32 x.toNat
  | 6, v, _ => v = .int .u32 ((x.toNat : Int) / 256)
  | 7, v, _ => v = .int .u8 ((x.toNat : Int) / 256 % 256)
  | 8, v, _ => v = .int .u32 x.toNat
  | 9, v, _ => v = .int .u32 ((x.toNat : Int) / 65536)
  | 10, v, _ => v = .int .u8 ((x.toNat : Int) / 65536 % 256)
  | 11, v, _ => v = .int .u32 x.toNat
  | 12, v, _ => v = .int .u32 ((x.toNat : Int) / 16777216)
  | 13, v, _ => v = .int .u8 ((x.toNat : Int) / 16777216)
  | 14, v, W => ∃ g, v = .slice (some ⟨g, 0, none⟩) 4 4 ∧ Blk W g 5 (Lib.byteCells (Fr.le4 x)).toArray
  | 15, v, _ => v = .string ⟨(Fr.le4 x).toArray⟩
  | 16, v, _ => v = .string ⟨(Fr.enc (2 * s.size) ++ Fr.le4 x).toArray⟩
  | 17, v, _ => v = .string s
  | 18, v, _ => v = .string ⟨(Fr.enc (2 * s.size) ++ (Fr.le4 x ++ s.data.toList)).toArray⟩
  | 19, v, _ => v = .string ⟨(Fr.enc (2 * s.size) ++ (Fr.le4 x ++ s.data.toList)).toArray⟩
  | _, _, _ => False
theorem u8w (a : Int) : IntKind.u8.wrap a = a % 256 := by
  simp [IntKind.wrap, IntKind.signed, IntKind.bits]
theorem str_list (s : ByteArray) : s = ⟨s.data.toList.toArray⟩ := by simp

set_option maxHeartbeats 1000000 in
/-- the reference's frame -/
theorem refOne_any (s : ByteArray) (w : World) (hs : s.size ≤ 1099511627776) :
    Calls Try.prog 23 #[.string s] w fun e w' => e = .returned (.string ⟨(Fr.one s.data.toList).toArray⟩) ∧ Below w.heap.size w w' := by
  go_enter Try.func23, Try.ntmps23
  go_wp2_with fail
  refine (refSum_any s w (by unfold maxLen; omega)).mono ?_
  rintro e w1 ⟨rfl, rfl⟩
  obtain ⟨x, hx⟩ : ∃ x, x = Fr.sum s.data.toList := ⟨_, rfl⟩
  have hx2 : Crc.more 0#32 s.data.toList = x := hx.symm
  rw [hx2]
  have HX := Lib.hid hx
  have hxl := x.isLt
  clear hx hx2
  go_wp2_with fail
  have hel := Fr.enc_small (2 * s.size) (by omega)
  refine wp_region_yields (by kernel_rfl) (OneV s x) (fun W => Below w.heap.size w W) (fun W W' => Below W.heap.size W W') (by kernel_rfl) ?hG ?hmono ?hstep ?hend
  case hG => exact (Below.refl _ _).drew
  case hmono =>
    intro i v W W' hx hv
    match i with
    | 14 => obtain ⟨g, h1, h2⟩ := hv; exact ⟨g, h1, h2.below hx h2.lt⟩
    | 0 | 1 | 2 | 3 | 4 | 5 | 6 | 7 | 8 | 9 | 10 | 11 | 12 | 13 | 15 | 16 | 17 | 18 | 19 => exact hv
    | i + 20 => exact hv
  case hstep =>
    intro i o F U W ho hGW hat hoff hp
    have hrefl := fun W : World => Below.refl W.heap.size W
    match i with
-- BEGIN one
    | 0 =>
      injection (show some _ = some o from ho) with ho
      subst ho
      exact wp_move' (.tmp 0) rfl ⟨_, rfl, (hoff 0 (of_decide_eq_true (by kernel_rfl))).trans rfl, hGW, hrefl W⟩
    | 1 =>
      injection (show some _ = some o from ho) with ho
      subst ho
      have hv0 : OneV s x 0 (U 0) W := hp ⟨0, .data⟩ (by simp) rfl
      have ht0 := act_tmp (hat 0 6 (of_decide_eq_true (by kernel_rfl)) rfl)
      clear hat hoff hp
      rw [hv0] at ht0
      exact wp_value' (.int .i64 s.size) W (by unfold execOp; go_simp) ⟨_, rfl, rfl, hGW, hrefl W⟩
    | 2 =>
      injection (show some _ = some o from ho) with ho
      subst ho
      have hv1 : OneV s x 1 (U 1) W := hp ⟨1, .data⟩ (by simp) rfl
      have ht1 := act_tmp (hat 1 7 (of_decide_eq_true (by kernel_rfl)) rfl)
      clear hat hoff hp
      rw [hv1] at ht1
      refine wp_enter' 33 #[.int .i64 s.size] (by unfold execOp; go_simp) ?_
      refine (refNum_any s.size W hs).mono ?_
      rintro e W' ⟨rfl, hb⟩
      exact ⟨_, rfl, _, rfl, rfl, hGW.trans (hb.mono hGW.size), hb⟩
    | 3 =>
      injection (show some _ = some o from ho) with ho
      subst ho
      exact wp_move' (.tmp 3) rfl ⟨_, rfl, (hoff 3 (of_decide_eq_true (by kernel_rfl))).trans rfl, hGW, hrefl W⟩
    | 4 =>
      injection (show some _ = some o from ho) with ho
      subst ho
      have hv3 : OneV s x 3 (U 3) W := hp ⟨3, .data⟩ (by simp) rfl
      have ht3 := act_tmp (hat 3 9 (of_decide_eq_true (by kernel_rfl)) rfl)
      clear hat hoff hp
      rw [hv3] at ht3
      exact wp_value' (.int .u8 ((x.toNat : Int) % 256)) W (by unfold execOp; go_simp; exact u8w _) ⟨_, rfl, rfl, hGW, hrefl W⟩
    | 5 =>
      injection (show some _ = some o from ho) with ho
      subst ho
      exact wp_move' (.tmp 3) rfl ⟨_, rfl, (hoff 3 (of_decide_eq_true (by kernel_rfl))).trans rfl, hGW, hrefl W⟩
    | 6 =>
      injection (show some _ = some o from ho) with ho
      subst ho
      have hv5 : OneV s x 5 (U 5) W := hp ⟨5, .data⟩ (by simp) rfl
      have ht5 := act_tmp (hat 5 11 (of_decide_eq_true (by kernel_rfl)) rfl)
      clear hat hoff hp
      rw [hv5] at ht5
      exact wp_value' (.int .u32 ((x.toNat : Int) / 256)) W (by unfold execOp; go_simp) ⟨_, rfl, rfl, hGW, hrefl W⟩
    | 7 =>
      injection (show some _ = some o from ho) with ho
      subst ho
      have hv6 : OneV s x 6 (U 6) W := hp ⟨6, .data⟩ (by simp) rfl
      have ht6 := act_tmp (hat 6 12 (of_decide_eq_true (by kernel_rfl)) rfl)
      clear hat hoff hp
      rw [hv6] at ht6
      exact wp_value' (.int .u8 ((x.toNat : Int) / 256 % 256)) W (by unfold execOp; go_simp; exact u8w _) ⟨_, rfl, rfl, hGW, hrefl W⟩
    | 8 =>
      injection (show some _ = some o from ho) with ho
      subst ho
      exact wp_move' (.tmp 3) rfl ⟨_, rfl, (hoff 3 (of_decide_eq_true (by kernel_rfl))).trans rfl, hGW, hrefl W⟩
    | 9 =>
      injection (show some _ = some o from ho) with ho
      subst ho
      have hv8 : OneV s x 8 (U 8) W := hp ⟨8, .data⟩ (by simp) rfl
      have ht8 := act_tmp (hat 8 14 (of_decide_eq_true (by kernel_rfl)) rfl)
      clear hat hoff hp
      rw [hv8] at ht8
      exact wp_value' (.int .u32 ((x.toNat : Int) / 65536)) W (by unfold execOp; go_simp) ⟨_, rfl, rfl, hGW, hrefl W⟩
    | 10 =>
      injection (show some _ = some o from ho) with ho
      subst ho
      have hv9 : OneV s x 9 (U 9) W := hp ⟨9, .data⟩ (by simp) rfl
      have ht9 := act_tmp (hat 9 15 (of_decide_eq_true (by kernel_rfl)) rfl)
      clear hat hoff hp
      rw [hv9] at ht9
      exact wp_value' (.int .u8 ((x.toNat : Int) / 65536 % 256)) W (by unfold execOp; go_simp; exact u8w _) ⟨_, rfl, rfl, hGW, hrefl W⟩
    | 11 =>
      injection (show some _ = some o from ho) with ho
      subst ho
      exact wp_move' (.tmp 3) rfl ⟨_, rfl, (hoff 3 (of_decide_eq_true (by kernel_rfl))).trans rfl, hGW, hrefl W⟩
    | 12 =>
      injection (show some _ = some o from ho) with ho
      subst ho
      have hv11 : OneV s x 11 (U 11) W := hp ⟨11, .data⟩ (by simp) rfl
      have ht11 := act_tmp (hat 11 17 (of_decide_eq_true (by kernel_rfl)) rfl)
      clear hat hoff hp
      rw [hv11] at ht11
      exact wp_value' (.int .u32 ((x.toNat : Int) / 16777216)) W (by unfold execOp; go_simp) ⟨_, rfl, rfl, hGW, hrefl W⟩
    | 13 =>
      injection (show some _ = some o from ho) with ho
      subst ho
      have hv12 : OneV s x 12 (U 12) W := hp ⟨12, .data⟩ (by simp) rfl
      have ht12 := act_tmp (hat 12 18 (of_decide_eq_true (by kernel_rfl)) rfl)
      clear hat hoff hp
      rw [hv12] at ht12
      exact wp_value' (.int .u8 ((x.toNat : Int) / 16777216)) W (by unfold execOp; go_simp; rw [u8w]; omega) ⟨_, rfl, rfl, hGW, hrefl W⟩
    | 14 =>
      injection (show some _ = some o from ho) with ho
      subst ho
      have hv4 : OneV s x 4 (U 4) W := hp ⟨4, .data⟩ (by simp) rfl
      have ht4 := act_tmp (hat 4 10 (of_decide_eq_true (by kernel_rfl)) rfl)
      have hv7 : OneV s x 7 (U 7) W := hp ⟨7, .data⟩ (by simp) rfl
      have ht7 := act_tmp (hat 7 13 (of_decide_eq_true (by kernel_rfl)) rfl)
      have hv10 : OneV s x 10 (U 10) W := hp ⟨10, .data⟩ (by simp) rfl
      have ht10 := act_tmp (hat 10 16 (of_decide_eq_true (by kernel_rfl)) rfl)
      have hv13 : OneV s x 13 (U 13) W := hp ⟨13, .data⟩ (by simp) rfl
      have ht13 := act_tmp (hat 13 19 (of_decide_eq_true (by kernel_rfl)) rfl)
      clear hat hoff hp
      rw [hv4] at ht4
      rw [hv7] at ht7
      rw [hv10] at ht10
      rw [hv13] at ht13
      have ha : Below W.heap.size W (W.alloc (.cells (Lib.byteCells (Fr.le4 x)).toArray 5)) := (Below.refl _ _).alloc (Nat.le_refl _) _
      refine wp_value' (.slice (some ⟨W.heap.size, 0, none⟩) 4 4) (W.alloc (.cells (Lib.byteCells (Fr.le4 x)).toArray 5)) ?_ ⟨_, rfl, ⟨_, rfl, Blk.new W _ _⟩, hGW.trans (ha.mono hGW.size), ha⟩
      rw [← le4_cells x]
      unfold execOp; go_simp
    | 15 =>
      injection (show some _ = some o from ho) with ho
      subst ho
      have hv14 : OneV s x 14 (U 14) W := hp ⟨14, .data⟩ (by simp) rfl
      have ht14 := act_tmp (hat 14 20 (of_decide_eq_true (by kernel_rfl)) rfl)
      clear hat hoff hp
      obtain ⟨g, hg, hbk⟩ := hv14
      rw [hg] at ht14
      have hcv := (bytes_blk hbk).text (P := Try.prog) 31 5 9 Try.underlying31 Try.underlying5 Try.underlying9 4
      rw [Fr.le4_len] at hcv
      exact wp_value' (.string ⟨(Fr.le4 x).toArray⟩) W (by unfold execOp; go_simp) ⟨_, rfl, rfl, hGW, hrefl W⟩
    | 16 =>
      injection (show some _ = some o from ho) with ho
      subst ho
      have hv2 : OneV s x 2 (U 2) W := hp ⟨2, .data⟩ (by simp) rfl
      have ht2 := act_tmp (hat 2 8 (of_decide_eq_true (by kernel_rfl)) rfl)
      have hv15 : OneV s x 15 (U 15) W := hp ⟨15, .data⟩ (by simp) rfl
      have ht15 := act_tmp (hat 15 21 (of_decide_eq_true (by kernel_rfl)) rfl)
      clear hat hoff hp
      rw [hv2] at ht2
      rw [hv15] at ht15
      have h1 := size_list (Fr.enc (2 * s.size))
      have h2 := size_list (Fr.le4 x)
      rw [Fr.le4_len] at h2
      exact wp_value' (.string ⟨(Fr.enc (2 * s.size) ++ Fr.le4 x).toArray⟩) W (by rw [← str_cat]; unfold execOp; go_simp; omega) ⟨_, rfl, rfl, hGW, hrefl W⟩
    | 17 =>
      injection (show some _ = some o from ho) with ho
      subst ho
      exact wp_move' (.tmp 0) rfl ⟨_, rfl, (hoff 0 (of_decide_eq_true (by kernel_rfl))).trans rfl, hGW, hrefl W⟩
    | 18 =>
      injection (show some _ = some o from ho) with ho
      subst ho
      have hv16 : OneV s x 16 (U 16) W := hp ⟨16, .data⟩ (by simp) rfl
      have ht16 := act_tmp (hat 16 22 (of_decide_eq_true (by kernel_rfl)) rfl)
      have hv17 : OneV s x 17 (U 17) W := hp ⟨17, .data⟩ (by simp) rfl
      have ht17 := act_tmp (hat 17 23 (of_decide_eq_true (by kernel_rfl)) rfl)
      clear hat hoff hp
      rw [hv16] at ht16
      rw [hv17] at ht17
      have h1 := size_list (Fr.enc (2 * s.size) ++ Fr.le4 x)
      rw [List.length_append, Fr.le4_len] at h1
      have e : (⟨(Fr.enc (2 * s.size) ++ (Fr.le4 x ++ s.data.toList)).toArray⟩ : ByteArray) = ⟨(Fr.enc (2 * s.size) ++ Fr.le4 x).toArray⟩ ++ s := by conv => rhs; rw [str_list s, str_cat, List.append_assoc]
      refine wp_value' (.string ⟨(Fr.enc (2 * s.size) ++ (Fr.le4 x ++ s.data.toList)).toArray⟩) W ?_ ⟨_, rfl, rfl, hGW, hrefl W⟩
      rw [e]
      unfold execOp; go_simp; omega
    | 19 =>
      injection (show some _ = some o from ho) with ho
      subst ho
      have hv18 : OneV s x 18 (U 18) W := hp ⟨18, .data⟩ (by simp) rfl
      have ht18 := act_tmp (hat 18 24 (of_decide_eq_true (by kernel_rfl)) rfl)
      have hs18 := hat 18 24 (of_decide_eq_true (by kernel_rfl)) rfl
      exact wp_assign' (.tmp 24) rfl ⟨_, rfl, hs18.trans hv18, hGW, hrefl W⟩
-- END one
    | i + 20 => exact absurd ho (by simp)
  case hend =>
    intro U W hGW hV
    have h19 := hV 19 (of_decide_eq_true (by kernel_rfl))
    simp only [OneV] at h19
    have HBW := Lib.hid hGW
    clear hV hGW
    simp [putU, dstAt, Act.put, Exit.then, h19]
    go_wp2
    go_ret
    refine ⟨?_, HBW.out⟩
    unfold Fr.one
    rw [← HX.out]
    simp

theorem grown1 {a w : World} (h : Below a.heap.size a w) : a.grownBy w none := ⟨h.os, h.tape, h.output, h.size, fun i hi _ => h.block i hi⟩
/-- an owned row's text -/
theorem own_text {W : World} {B : Nat} {g c : Nat} {l : List UInt8} (h : W.ownsRow B 5 1 (.slice (some ⟨g, 0, none⟩) l.length c) l.length (Lib.byteCells l)) :
    (convert 31 9 (.slice (some ⟨g, 0, none⟩) l.length c)).run Try.prog W = .ok (.string ⟨l.toArray⟩) W := by
  rw [run_convert_bytes_arg W 31 5 Try.underlying31 Try.underlying5 g 0 l.length c (l.map fun b => (b.toNat : Int)) (by simp) (fun i hi => by
    have := h.cells (g := g) rfl i (.int .u8 (l[i].toNat : Int)) (by simp [Lib.byteCells, hi])
    rw [Nat.zero_add]
    simp only [Addr.add] at this
    have e : (⟨g, i, none⟩ : Addr) = (⟨g, 0, none⟩ : Addr).add i := by simp [Addr.add]; try exact fun h => h.symm
    rw [e]
    refine Eq.trans (h.cells (g := g) rfl i (.int .u8 (l[i].toNat : Int)) (by simp [Lib.byteCells, hi])) ?_
    simp [List.getD, hi]) 9 Try.underlying9]
  congr 3
  show (⟨_⟩ : ByteArray) = _
  congr 1
  simp only [List.map_map, Array.mk.injEq]
  refine (List.map_congr_left (g := id) fun b _ => ?_).trans (List.map_id _)
  simp

set_option maxHeartbeats 2000000 in
/-- the reference's frames -/
theorem refSeal_any (A : Option Addr) (n c : Nat) (ss : List ByteArray) (w : World) (h : Reads w w.heap.size 1 A n (strV ss)) (hn : n ≤ maxLen) (hb : (Fr.all (bytes ss)).length ≤ 70368744177664) :
    Calls Try.prog 12 #[.slice A n c] w fun e w' => Below w.heap.size w w' ∧
      ((sealable ss ∧ e = .returned (.tuple #[.string ⟨(Fr.all (bytes ss)).toArray⟩, .int .i64 0])) ∨ (¬ sealable ss ∧ e = .returned (.tuple #[.string ⟨#[]⟩, .int .i64 4]))) := by
  have hlen : ss.length = n := by have := h.1; simp [strV] at this; omega
  have HR := Lib.hid h
  have HLB := Lib.hid hb
  have HL := Lib.hid hlen
  have hb0 : Below w.heap.size w (w.alloc (.cells #[] 5)) := (Below.refl _ _).alloc (Nat.le_refl _) _
  have HB0 := Lib.hid hb0
  have HO0 := Lib.hid (own_empty w 5 1)
  obtain ⟨i0, hi0, hz0, hz1, hz2⟩ := info_parts infoByte
  have HI := Lib.hid hi0
  have HZ0 := Lib.hid hz0
  have HZ1 := Lib.hid hz1
  have HZ2 := Lib.hid hz2
  clear h hb hlen hb0 hi0 hz0 hz1 hz2
  unfold maxLen at hn
  go_enter Try.func12, Try.ntmps12
  go_wp2_with fail
  go_loop [5] (fun i => ∃ k : Nat, k ≤ n ∧ i = .int .i64 k ∧ sealable (ss.take k)) (fun i => n - (intOf i).toNat)
  case atStart => exact ⟨0, by omega, rfl, fun s hs => by simp at hs⟩
  case round =>
    obtain ⟨k, hk, rfl, hsl⟩ := hrel
    have HS := Lib.hid hsl
    clear hsl
    by_cases hkn : k < n
    · obtain ⟨ad, u, rfl, hadb, hu, hcl⟩ := HR.out.at_ hkn
      have hks : k < ss.length := by rw [HL.out]; exact hkn
      rw [strV_at ss k hks] at hu
      injection hu with hu
      subst hu
      obtain ⟨s, hs⟩ : ∃ s, s = ss[k] := ⟨_, rfl⟩
      rw [← hs] at hcl
      have HSK := Lib.hid hs
      have hcl2 : (w.alloc (.cells #[] 5)).cell? (ad.add k) = some (.string s) := (HB0.out.cell (by rw [block_of_add]; exact hadb)).trans hcl
      clear hs hcl
      by_cases hbig : (1048576 : Int) < s.size
      · go_wp2
        go_ret2
        refine ⟨HB0.out, Or.inr ⟨fun hall => ?_, rfl⟩⟩
        have := hall ss[k] (List.getElem_mem hks)
        rw [← HSK.out] at this
        omega
      · go_wp2
        go_round
        case rel =>
          refine ⟨k + 1, by omega, by go_num, fun s' hs' => ?_⟩
          rw [List.take_succ_eq_append_getElem hks] at hs'
          rcases List.mem_append.1 hs' with h | h
          · exact HS.out s' h
          · simp at h
            rw [h, ← HSK.out]
            omega
        case measure => simp [intOf]; omega
    · obtain rfl : n = k := by omega
      have hall : ss.take n = ss := List.take_of_length_le (by rw [HL.out]; exact Nat.le_refl _)
      rw [hall] at HS
      clear hall
      go_wp2_with fail
      go_loopw [4, 6] (fun v i wr => ∃ k : Nat, k ≤ n ∧ i = .int .i64 k ∧ v ≠ .slice none 0 0 ∧ wr.ownsRow w.heap.size 5 1 v (Fr.all (bytes (ss.take k))).length (Lib.byteCells (Fr.all (bytes (ss.take k)))) ∧ Below w.heap.size w wr) (fun _ i _ => n - (intOf i).toNat)
      case atStart => exact ⟨0, by omega, rfl, by simp, HO0.out, HB0.out⟩
      case round =>
        obtain ⟨k, hk, rfl, hnn, hown, hbw⟩ := hrel
        have HNN := Lib.hid hnn
        have HOW := Lib.hid hown
        have HBW := Lib.hid hbw
        clear hnn hown hbw
        by_cases hkn : k < n
        · obtain ⟨ad, u, rfl, hadb, hu, hcl⟩ := HR.out.at_ hkn
          have hks : k < ss.length := by rw [HL.out]; exact hkn
          rw [strV_at ss k hks] at hu
          injection hu with hu
          subst hu
          obtain ⟨s, hs⟩ : ∃ s, s = ss[k] := ⟨_, rfl⟩
          rw [← hs] at hcl
          have hsz : s.size ≤ 1048576 := by rw [hs]; exact HS.out _ (List.getElem_mem hks)
          have HSK := Lib.hid hs
          have hcl2 : wr.cell? (ad.add k) = some (.string s) := (HBW.out.cell (by rw [block_of_add]; exact hadb)).trans hcl
          have hsl : (Fr.all (bytes (ss.take k))).length + (Fr.one s.data.toList).length ≤ 70368744177664 := by
            have h1 := all_snoc ss k hks
            have h2 := all_take_le (bytes ss) (k + 1)
            rw [← bytes_take, h1, List.length_append, ← HSK.out] at h2
            exact Nat.le_trans h2 HLB.out
          have HSL := Lib.hid hsl
          clear hs hcl hsl
          go_wp2_with fail
          refine (refOne_any s wr (by omega)).mono ?_
          rintro e w1 ⟨rfl, hb1⟩
          have hown1 := HOW.out.kept (grown1 hb1) (by cases hv : u4.ownBlock; exact Or.inl rfl; exact Or.inr (by simp))
          have HOW1 := Lib.hid hown1
          have HB1 := Lib.hid hb1
          clear hown1 hb1
          go_wp2_with (at_builtin; refine Lib.wpList_append_own_string _ rfl _ _ 31 9 rfl w.heap.size 5 i0 Try.underlying31 Try.underlying9 HI.out HZ0.out HZ1.out HZ2.out _ _ _ rfl HOW1.out _ rfl ?c3 ?c4 ?c5 ?_)
          case c3 => have := HSL.out; rw [size_list]; unfold maxLen; omega
          case c4 => have := HSL.out; rw [size_list]; omega
          case c5 => have := HBW.out.size; have := HB1.out.size; omega
          intro v' w2 hown2 hgrow hnil
          have hnn2 : v' ≠ .slice none 0 0 := fun e => HNN.out (hnil.1 e).1
          have hb2 : Below w.heap.size w w2 := (HBW.out.trans (HB1.out.mono HBW.out.size)).grown hgrow (by have := HBW.out.size; have := HB1.out.size; omega) (fun j hj => (HOW1.out.lt j hj).1)
          have hown3 : w2.ownsRow w.heap.size 5 1 v' (Fr.all (bytes (ss.take (k + 1)))).length (Lib.byteCells (Fr.all (bytes (ss.take (k + 1))))) := by
            rw [all_snoc ss k hks, ← HSK.out, List.length_append, byteCells_app]
            rw [strCells_list] at hown2
            exact hown2
          have HNN2 := Lib.hid hnn2
          have HB2 := Lib.hid hb2
          have HOW3 := Lib.hid hown3
          clear hown2 hgrow hnil hnn2 hb2 hown3
          go_wp2
          go_round
          case rel => exact ⟨k + 1, by omega, by go_num, HNN2.out, HOW3.out, HB2.out⟩
          case measure => simp [intOf]; omega
        · obtain rfl : n = k := by omega
          have hall : ss.take n = ss := List.take_of_length_le (by rw [HL.out]; exact Nat.le_refl _)
          rw [hall] at HOW
          obtain ⟨g, c', rfl⟩ : ∃ g c', u4 = .slice (some ⟨g, 0, none⟩) (Fr.all (bytes ss)).length c' := by
            rcases HOW.out.2 with ⟨h1, _⟩ | ⟨g, cap, cur, h1, _⟩
            · exact absurd h1 HNN.out
            · exact ⟨g, cap, h1⟩
          have hcv := own_text HOW.out
          go_wp2
          go_ret2
          exact ⟨HBW.out, Or.inl ⟨HS.out, rfl⟩⟩
end Go.Proofs.Ytehhhclpeefnmaa
