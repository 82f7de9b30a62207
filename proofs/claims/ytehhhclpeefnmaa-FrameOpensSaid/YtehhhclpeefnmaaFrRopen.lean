/-
  THE WALKS OF FRAMES: what stands first, as the reference finds it.
-/
import Derived.Test.YtehhhclpeefnmaaFrRnum
namespace Go.Proofs.Ytehhhclpeefnmaa
open Go.RowKit

/-- no number, and no frame's bytes, are written in two ways -/
theorem openF_one (s : List UInt8) (z m : Nat) (hd : Fr.dec s 0 0 = some (z, m)) (h : ¬ (z % 2 = 1 ∨ 1048576 < z / 2 ∨ s.length < m + 4 + z / 2)) :
    Fr.openF s = if Fr.one ((s.drop (m + 4)).take (z / 2)) = s.take (m + 4 + z / 2) then some ((s.drop (m + 4)).take (z / 2), s.drop (m + 4 + z / 2)) else none := by
  have hl : ((s.drop (m + 4)).take (z / 2)).length = z / 2 := by rw [List.length_take, List.length_drop]; omega
  split
  · rename_i e
    have h1 := Fr.open_one ((s.drop (m + 4)).take (z / 2)) (s.drop (m + 4 + z / 2)) (by omega)
    rw [e, List.take_append_drop] at h1
    exact h1
  · rename_i e
    cases ho : Fr.openF s with
    | none => rfl
    | some pt =>
      obtain ⟨p, t⟩ := pt
      have h2 := (Fr.open_spec _ _ _ ho).2
      unfold Fr.openF at ho
      rw [hd] at ho
      simp only at ho
      rw [if_neg h] at ho
      split at ho
      · simp only [Option.some.injEq, Prod.mk.injEq] at ho
        obtain ⟨rfl, rfl⟩ := ho
        exfalso
        apply e
        have h3 := List.take_append_drop (m + 4 + z / 2) s
        exact List.append_cancel_right (h2.symm.trans h3.symm)
      · cases ho

/-- what the reference's Open tells -/
def ROpened (s : ByteArray) (e : Ending) : Prop :=
  match Fr.openF s.data.toList with
  | none => e = .returned (.tuple #[.string ⟨#[]⟩, .string ⟨#[]⟩, .bool false])
  | some (p, t) => e = .returned (.tuple #[.string ⟨p.toArray⟩, .string ⟨t.toArray⟩, .bool true])
theorem ropened_none {s : ByteArray} (h : Fr.openF s.data.toList = none) : ROpened s (.returned (.tuple #[.string ⟨#[]⟩, .string ⟨#[]⟩, .bool false])) := by
  unfold ROpened; rw [h]
theorem ropened_some {s : ByteArray} {p t : List UInt8} {x y : ByteArray} (h : Fr.openF s.data.toList = some (p, t)) (hx : x = ⟨p.toArray⟩) (hy : y = ⟨t.toArray⟩) : ROpened s (.returned (.tuple #[.string x, .string y, .bool true])) := by
  subst hx hy
  unfold ROpened; rw [h]

/-- what the operations that hold a frame against what stands there yield -/
def ROpV (s p : ByteArray) (K : Nat) (b : Bool) : Nat → Value → World → Prop
  | 0, v, _ => v = .string p
  | 1, v, _ => v = .string ⟨(Fr.one p.data.toList).toArray⟩
  | 2, v, _ => v = .string s
  | 3, v, _ => v = .int .i64 K
  | 4, v, _ => v = .string (s.extract 0 K)
  | 5, v, _ => v = .bool b
  | _, _, _ => False

set_option maxHeartbeats 2000000 in
theorem ropen_any (s : ByteArray) (w : World) (hs : s.size ≤ 1048576) :
    Calls Try.prog 14 #[.string s] w fun e w' => ROpened s e ∧ Below w.heap.size w w' := by
  go_enter Try.func14, Try.ntmps14
  go_wp2_with fail
  have hbk := Blk.new w 61 #[.string s, .int .i64 0, .bool false]
  have hb1 : Below w.heap.size w (w.alloc (.cells #[.string s, .int .i64 0, .bool false] 61)) := (Below.refl _ _).alloc (Nat.le_refl _) _
  have HBK := Lib.hid hbk
  have HB1 := Lib.hid hb1
  clear hbk hb1
  refine (rnum_any w.heap.size w.heap.size s _ HBK.out (Nat.le_refl _) (by omega)).mono ?_
  rintro e w2 ⟨hnum, hb2⟩
  have HB2 := Lib.hid (HB1.out.trans hb2)
  clear hb2
  cases hd : Fr.dec s.data.toList 0 0 with
  | none =>
    have hop : Fr.openF s.data.toList = none := by unfold Fr.openF; rw [hd]
    unfold RNumbered at hnum
    rw [hd] at hnum
    obtain ⟨rfl, hbk⟩ := hnum
    have c2 := hbk.cell 2
    simp at c2
    have HOP := Lib.hid hop
    clear hbk hd hop
    go_wp2_with fail
    go_ret3
    exact ⟨ropened_none HOP.out, HB2.out⟩
  | some zm =>
    obtain ⟨z, m⟩ := zm
    unfold RNumbered at hnum
    rw [hd] at hnum
    obtain ⟨rfl, hbk⟩ := hnum
    obtain ⟨q, hq1, hq2, ⟨t, hq3⟩, _⟩ := Fr.dec_spec _ _ _ _ _ hd
    have hms : m ≤ s.size := by
      have := congrArg List.length hq3
      simp at this
      omega
    have c0 := hbk.cell 0
    have c1 := hbk.cell 1
    have c2 := hbk.cell 2
    simp at c0 c1 c2
    have HB := Lib.hid hbk
    have HD := Lib.hid hd
    clear hbk hd hq1 hq2 hq3
    by_cases hodd : z % 2 = 1
    · have hop : Fr.openF s.data.toList = none := by unfold Fr.openF; rw [HD.out]; simp only; rw [if_pos (Or.inl hodd)]
      have hun : Fr.unz z < 0 := by unfold Fr.unz; rw [if_pos hodd]; omega
      have HOP := Lib.hid hop
      clear hop
      go_wp2_with fail
      go_ret3
      exact ⟨ropened_none HOP.out, HB2.out⟩
    · obtain ⟨n, hn⟩ : ∃ n, n = z / 2 := ⟨_, rfl⟩
      have hun : Fr.unz z = (n : Int) := by unfold Fr.unz; rw [if_neg hodd, hn]
      rw [hun]
      have HN := Lib.hid hn
      clear hn hun
      by_cases hbig : 1048576 < n
      · have hop : Fr.openF s.data.toList = none := by unfold Fr.openF; rw [HD.out]; simp only; rw [if_pos (Or.inr (by rw [← HN.out]; exact Or.inl hbig))]
        have HOP := Lib.hid hop
        clear hop
        go_wp2_with fail
        go_ret3
        exact ⟨ropened_none HOP.out, HB2.out⟩
      · by_cases hshort : s.size < m + 4 + n
        · have hop : Fr.openF s.data.toList = none := by unfold Fr.openF; rw [HD.out]; simp only; rw [if_pos (Or.inr (by rw [← HN.out]; exact Or.inr (by simpa using hshort)))]
          have HOP := Lib.hid hop
          clear hop
          go_wp2_with fail
          go_ret3
          exact ⟨ropened_none HOP.out, HB2.out⟩
        · have hop := openF_one s.data.toList z m HD.out (by
            rw [← HN.out]
            have hsl : s.data.toList.length = s.size := by simp
            rw [hsl]
            omega)
          rw [← HN.out] at hop
          have HOP := Lib.hid hop
          clear hop
          go_wp2_with fail
          go_quiet (fail)
          go_wp2_with fail
          obtain ⟨K, hK⟩ : ∃ K, K = m + 4 + n := ⟨_, rfl⟩
          obtain ⟨p, hp⟩ : ∃ p, p = s.extract (m + 4) (m + 4 + n) := ⟨_, rfl⟩
          rw [← hp]
          have hps : p.size ≤ 1048576 := by rw [hp, ByteArray.size_extract]; omega
          have hKI : (m : Int) + 4 + (n : Int) = (K : Int) := by omega
          rw [hKI]
          have hKs : K ≤ s.size := by omega
          obtain ⟨b, hb⟩ : ∃ b, (Fr.one p.data.toList == (s.extract 0 K).toList) = !b := ⟨!(Fr.one p.data.toList == (s.extract 0 K).toList), by simp⟩
          have HBB := Lib.hid hb
          have HP := Lib.hid hp
          have HK := Lib.hid hK
          clear hb hp hK hKI
          refine wp_region_yields (by kernel_rfl) (ROpV s p K b) (fun W => Below w.heap.size w W) (fun W W' => Below W.heap.size W W') (by kernel_rfl) ?hG ?hmono ?hstep ?hend
          case hG => exact (below_drewN HB2.out _).drew
          case hmono =>
            intro i v W W' hx hv
            match i with
            | 0 | 1 | 2 | 3 | 4 | 5 => exact hv
            | i + 6 => exact hv
          case hstep =>
            intro i o F U W ho hGW hat hoff hp
            have hrefl := fun W : World => Below.refl W.heap.size W
            match i with
-- BEGIN ropen
            | 0 =>
              injection (show some _ = some o from ho) with ho
              subst ho
              exact wp_move' (.tmp 7) rfl ⟨_, rfl, (hoff 7 (of_decide_eq_true (by kernel_rfl))).trans rfl, hGW, hrefl W⟩
            | 1 =>
              injection (show some _ = some o from ho) with ho
              subst ho
              have hv0 : ROpV s p K b 0 (U 0) W := hp ⟨0, .data⟩ (by simp) rfl
              have ht0 := act_tmp (hat 0 59 (of_decide_eq_true (by kernel_rfl)) rfl)
              clear hat hoff hp
              rw [hv0] at ht0
              refine wp_enter' 23 #[.string p] (by unfold execOp; go_simp) ?_
              refine (refOne_any p W (by omega)).mono ?_
              rintro e W' ⟨rfl, hb⟩
              exact ⟨_, rfl, _, rfl, rfl, hGW.trans (hb.mono hGW.size), hb⟩
            | 2 =>
              injection (show some _ = some o from ho) with ho
              subst ho
              exact wp_move' (.tmp 0) rfl ⟨_, rfl, (hoff 0 (of_decide_eq_true (by kernel_rfl))).trans rfl, hGW, hrefl W⟩
            | 3 =>
              injection (show some _ = some o from ho) with ho
              subst ho
              exact wp_move' (.tmp 8) rfl ⟨_, rfl, (hoff 8 (of_decide_eq_true (by kernel_rfl))).trans rfl, hGW, hrefl W⟩
            | 4 =>
              injection (show some _ = some o from ho) with ho
              subst ho
              have hv2 : ROpV s p K b 2 (U 2) W := hp ⟨2, .data⟩ (by simp) rfl
              have ht2 := act_tmp (hat 2 61 (of_decide_eq_true (by kernel_rfl)) rfl)
              have hv3 : ROpV s p K b 3 (U 3) W := hp ⟨3, .data⟩ (by simp) rfl
              have ht3 := act_tmp (hat 3 62 (of_decide_eq_true (by kernel_rfl)) rfl)
              clear hat hoff hp
              rw [hv2] at ht2
              rw [hv3] at ht3
              exact wp_value' (.string (s.extract 0 K)) W (by unfold execOp; go_simp) ⟨_, rfl, rfl, hGW, hrefl W⟩
            | 5 =>
              injection (show some _ = some o from ho) with ho
              subst ho
              have hv1 : ROpV s p K b 1 (U 1) W := hp ⟨1, .data⟩ (by simp) rfl
              have ht1 := act_tmp (hat 1 60 (of_decide_eq_true (by kernel_rfl)) rfl)
              have hv4 : ROpV s p K b 4 (U 4) W := hp ⟨4, .data⟩ (by simp) rfl
              have ht4 := act_tmp (hat 4 63 (of_decide_eq_true (by kernel_rfl)) rfl)
              clear hat hoff hp
              rw [hv1] at ht1
              rw [hv4] at ht4
              exact wp_value' (.bool b) W (by unfold execOp; go_simp; exact HBB.out) ⟨_, rfl, rfl, hGW, hrefl W⟩
-- END ropen
            | i + 6 => cases ho
          case hend =>
            intro U W hGW hV
            have h5 := hV 5 (of_decide_eq_true (by kernel_rfl))
            simp only [ROpV] at h5
            have HBW := Lib.hid hGW
            clear hV hGW
            have hel : (s.extract 0 K).toList = s.data.toList.take K := by
              have h1 : (s.extract 0 K).toList = (s.extract 0 K).data.toList := by simp [ByteArray.toList_eq]
              rw [h1, Lib.extract_data]; simp
            have hpl : p.data.toList = (s.data.toList.drop (m + 4)).take n := by
              rw [HP.out, Lib.extract_data]
              congr 1
              omega
            have hbb := HBB.out
            rw [hel] at hbb
            have hop := HOP.out
            rw [← hpl, ← HK.out] at hop
            have HEL := Lib.hid hel
            clear hel hpl
            by_cases heq : Fr.one p.data.toList = s.data.toList.take K
            · rw [if_pos heq] at hop
              have hbf : b = false := by
                have h1 : (Fr.one p.data.toList == s.data.toList.take K) = true := by rw [heq]; simp
                rw [h1] at hbb
                cases b with
                | false => rfl
                | true => cases hbb
              have HO := Lib.hid hop
              have HE := Lib.hid heq
              subst hbf
              clear hop heq hbb
              simp [putU, dstAt, Act.put, Exit.then, h5]
              go_wp2_with fail
              go_quiet (fail)
              go_wp2
              go_ret3
              refine ⟨ropened_some HO.out (str_list p) ?_, below_drewN HBW.out _⟩
              apply ByteArray.ext
              apply Array.ext'
              rw [Lib.extract_data, List.take_of_length_le (by simp)]
            · rw [if_neg heq] at hop
              have hbt : b = true := by
                have h1 : (Fr.one p.data.toList == s.data.toList.take K) = false := by simpa using heq
                rw [h1] at hbb
                cases b with
                | false => cases hbb
                | true => rfl
              have HO := Lib.hid hop
              have HE := Lib.hid heq
              subst hbt
              clear hop heq hbb
              simp [putU, dstAt, Act.put, Exit.then, h5]
              go_wp2
              go_ret3
              exact ⟨ropened_none HO.out, HBW.out⟩
end Go.Proofs.Ytehhhclpeefnmaa
