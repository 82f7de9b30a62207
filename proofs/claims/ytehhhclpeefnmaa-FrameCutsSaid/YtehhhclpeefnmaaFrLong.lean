/-
  THE WALK OF FrameLong.
-/
import Derived.Test.YtehhhclpeefnmaaFrLaw
import Derived.Deep.OwnRows
namespace Go.Proofs.Ytehhhclpeefnmaa
open Go.RowKit

theorem infoB : (Try.prog.info? 5).map (fun i => (i.zero, i.size, i.bytes)) = some (some (.int .u8 0), 1, 1) := by kernel_rfl
theorem made_bytes (w : World) (n : Nat) (t : TypeId) : Bytes (w.alloc (.cells (madeCells #[.int .u8 0] n) t)) w.heap.size (List.replicate n 0) := by
  refine ⟨by simp, fun j hj => ?_, fun j _ => (Blk.new w t _).frozen j⟩
  rw [(Blk.new w t _).cell j]
  have hj' : j < n := by simpa using hj
  simp [madeCells, hj', Nat.mod_one]

theorem reads_strs {w : World} {g : Nat} {ss : List ByteArray} (h : Blk w g 9 (strV ss).toArray) (n : Nat) (hn : ss.length = n) : Reads w w.heap.size 1 (some ⟨g, 0, none⟩) n (strV ss) := by
  refine ⟨by simp [strV]; omega, fun _ => ⟨_, rfl, h.lt, fun j u hu => ?_⟩⟩
  have e : (⟨g, 0, none⟩ : Addr).add j = ⟨g, j, none⟩ := by simp [Addr.add]; try exact fun h => h.symm
  rw [e, h.cell j]
  simpa using hu
/-- one payload put into a frame -/
theorem seal1 (x : ByteArray) (W : World) (hx : x.size ≤ 1048576) :
    Calls Try.prog 11 #[.slice (some ⟨W.heap.size, 0, none⟩) 1 1] (W.alloc (.cells #[.string x] 9)) fun e w' => e = .returned (.tuple #[.string ⟨(Fr.one x.data.toList).toArray⟩, .int .i64 0]) ∧ Below W.heap.size W w' := by
  have hb : Below W.heap.size W (W.alloc (.cells #[.string x] 9)) := (Below.refl _ _).alloc (Nat.le_refl _) _
  have hl : (Fr.all (bytes [x])).length ≤ 70368744177664 := by
    have h3 := Fr.enc_small (2 * x.data.toList.length) (by simp; omega)
    have h4 := Fr.one_len x.data.toList
    have h5 : x.data.toList.length = x.size := by simp
    rw [h5] at h3 h4
    simp only [bytes, List.map_cons, List.map_nil, Fr.all, List.append_nil]
    omega
  refine (seal_any _ 1 1 [x] _ (reads_strs (Blk.new W _ _) 1 rfl) (by unfold maxLen; omega) (by intro s hs; simp at hs; subst hs; unfold maxLen; omega) hl).mono ?_
  rintro e w' ⟨hb2, h | h⟩
  · refine ⟨?_, hb.trans (hb2.mono hb.size)⟩
    rw [h.2]
    simp [bytes, Fr.all]
  · exact absurd (fun s hs => by simp at hs; subst hs; exact hx) h.1
/-- two payloads, of which one is too long -/
theorem seal2 (x y : ByteArray) (W : World) (hx : x.size ≤ 1048576) (hy : 1048576 < y.size) (hy2 : y.size ≤ 2097152) :
    Calls Try.prog 11 #[.slice (some ⟨W.heap.size, 0, none⟩) 2 2] (W.alloc (.cells #[.string x, .string y] 9)) fun e w' => e = .returned (.tuple #[.string ⟨#[]⟩, .int .i64 4]) ∧ Below W.heap.size W w' := by
  have hb : Below W.heap.size W (W.alloc (.cells #[.string x, .string y] 9)) := (Below.refl _ _).alloc (Nat.le_refl _) _
  have hl : (Fr.all (bytes [x, y])).length ≤ 70368744177664 := by
    have h3 := Fr.enc_small (2 * x.data.toList.length) (by simp; omega)
    have h4 := Fr.one_len x.data.toList
    have h5 : x.data.toList.length = x.size := by simp
    have k3 := Fr.enc_small (2 * y.data.toList.length) (by simp; omega)
    have k4 := Fr.one_len y.data.toList
    have k5 : y.data.toList.length = y.size := by simp
    rw [h5] at h3 h4
    rw [k5] at k3 k4
    simp only [bytes, List.map_cons, List.map_nil, Fr.all, List.append_nil, List.length_append]
    omega
  refine (seal_any _ 2 2 [x, y] _ (reads_strs (Blk.new W _ _) 2 rfl) (by unfold maxLen; omega) (by intro s hs; simp at hs; rcases hs with rfl | rfl <;> (unfold maxLen; omega)) hl).mono ?_
  rintro e w' ⟨hb2, h | h⟩
  · have := h.1 y (by simp)
    omega
  · exact ⟨h.2, hb.trans (hb2.mono hb.size)⟩

set_option maxHeartbeats 1000000 in
theorem frameLong_walk (w : World) (s : ByteArray) (hs : s.size ≤ maxLen) :
    Calls Try.prog 5 #[.string s] w fun e w' => e = .returned (.bool true) ∧ Below w.heap.size w w' := by
  unfold maxLen at hs
  go_enter Try.func5, Try.ntmps5
  go_wp2_with fail
  refine (awake_any w).mono ?_
  rintro e w1 ⟨rfl, hb1⟩
  have HB1 := Lib.hid hb1
  clear hb1
  by_cases hbig : (100 : Int) < s.size
  · go_wp2_with fail
    refine (awake_any w1).mono ?_
    rintro e w2 ⟨rfl, hb2⟩
    go_wp2
    go_ret
    exact ⟨rfl, HB1.out.trans (hb2.mono HB1.out.size)⟩
  · obtain ⟨n, hn⟩ : ∃ n : Nat, n = 1048576 := ⟨_, rfl⟩
    have hmk := run_make_row' (P := Try.prog) 31 5 (.int .u8 0) 1 Try.underlying31 infoB rfl .i64 .i64 n (w := w1) (by omega) (by omega)
    have hby := made_bytes w1 n 5
    have hb0 : Below w.heap.size w (w1.alloc (.cells (madeCells #[.int .u8 0] n) 5)) := HB1.out.alloc HB1.out.size _
    obtain ⟨W, hW⟩ : ∃ W, W = w1.alloc (.cells (madeCells #[.int .u8 0] n) 5) := ⟨_, rfl⟩
    obtain ⟨g, hg⟩ : ∃ g, g = w1.heap.size := ⟨_, rfl⟩
    rw [← hW] at hb0
    rw [← hW, ← hg] at hby
    rw [← hW, ← hg] at hmk
    have hcv := hby.text (P := Try.prog) 31 5 9 Try.underlying31 Try.underlying5 Try.underlying9 n
    rw [List.length_replicate] at hcv
    obtain ⟨L, hL⟩ : ∃ L : ByteArray, L = ⟨(List.replicate n 0).toArray⟩ := ⟨_, rfl⟩
    rw [← hL] at hcv
    have hLs : L.size = 1048576 := by rw [hL, size_list, List.length_replicate, hn]
    have HL := Lib.hid hL
    have HB0 := Lib.hid hb0
    subst hn
    have hmk2 : (Instr.makeSlice 31 (.int .i64 1048576) (.int .i64 1048576)).run Try.prog w1 = .ok (.slice (some ⟨g, 0, none⟩) 1048576 1048576) W := hmk
    have hcv2 : (convert 31 9 (.slice (some ⟨g, 0, none⟩) 1048576 1048576)).run Try.prog W = .ok (.string L) W := hcv
    clear hby hW hg hb0 hL hmk hcv
    go_wp2_with fail
    refine (seal1 L W (by omega)).mono ?_
    rintro e w2 ⟨rfl, hb2⟩
    have HB2 := Lib.hid (HB0.out.trans (hb2.mono HB0.out.size))
    have hop : Calls Try.prog 13 #[.string ⟨(Fr.one L.data.toList).toArray⟩] w2 fun e w' => e = .returned (.tuple #[.string L, .string ⟨#[]⟩, .int .i64 0]) ∧ Below w2.heap.size w2 w' := by
      refine (open_any _ w2 ?_).mono ?_
      · have h3 := Fr.enc_small (2 * L.data.toList.length) (by simp; omega)
        have h4 := Fr.one_len L.data.toList
        have h5 : L.data.toList.length = L.size := by simp
        rw [h5] at h3 h4
        rw [size_list]
        omega
      · rintro e w' ⟨h, hb⟩
        refine ⟨?_, hb⟩
        unfold Opened at h
        have ho := Fr.open_one L.data.toList [] (by simp; omega)
        rw [List.append_nil] at ho
        rw [show (⟨(Fr.one L.data.toList).toArray⟩ : ByteArray).data.toList = Fr.one L.data.toList from rfl, ho] at h
        rw [h]
    have HO := Lib.hid hop
    clear hop hb2
    go_wp2_with fail
    refine (HO.out).mono ?_
    rintro e w3 ⟨rfl, hb3⟩
    have HB3 := Lib.hid (HB2.out.trans (hb3.mono HB2.out.size))
    clear hb3
    obtain ⟨Y, hY⟩ : ∃ Y : ByteArray, Y = L ++ ⟨#[120]⟩ := ⟨_, rfl⟩
    have hYs : Y.size = 1048577 := by rw [hY, ByteArray.size_append, hLs]; rfl
    go_wp2_with fail
    rw [← hY]
    refine (seal2 s Y w3 (by omega) (by omega) (by omega)).mono ?_
    rintro e w4 ⟨rfl, hb4⟩
    go_wp2
    go_ret
    exact ⟨rfl, HB3.out.trans (hb4.mono HB3.out.size)⟩

end Go.Proofs.Ytehhhclpeefnmaa
