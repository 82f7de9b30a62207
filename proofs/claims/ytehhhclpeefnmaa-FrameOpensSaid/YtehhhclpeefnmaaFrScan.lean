/-
  THE WALKS OF FRAMES: all that stand there.
-/
import Derived.Test.YtehhhclpeefnmaaFrLaw
namespace Go.Proofs.Ytehhhclpeefnmaa
open Go.RowKit

/-- what stands there in all, as a list in memory, and where it ends -/
def Scanned (s : ByteArray) (e : Ending) (w' : World) : Prop :=
  ∃ A n c ss, e = .returned (.tuple #[.slice A n c, .int .i64 ((s.size : Int) - ((Fr.scan s.data.toList).2.length : Nat))]) ∧ n ≤ c ∧ c ≤ maxLen ∧ bytes ss = (Fr.scan s.data.toList).1 ∧ Reads w' w'.heap.size 1 A n (strV ss) ∧ (∀ x ∈ ss, x.size ≤ 1048576)

set_option maxHeartbeats 1000000 in
theorem scan_any (s : ByteArray) (w : World) (hs : s.size ≤ 1048576) :
    Calls Try.prog 15 #[.string s] w fun e w' => Scanned s e w' ∧ Below w.heap.size w w' := by
  obtain ⟨i0, hi0, hz0, hz1, hz2⟩ := info_parts Try.infoStr
  have HI := Lib.hid hi0
  have HZ0 := Lib.hid hz0
  have HZ1 := Lib.hid hz1
  have HZ2 := Lib.hid hz2
  clear hi0 hz0 hz1 hz2
  go_enter Try.func15, Try.ntmps15
  go_wp2_with fail
  go_loopw [2, 3] (fun v i wr => ∃ (k : Nat) (ss : List ByteArray), k ≤ s.size ∧ i = .int .i64 k ∧ ss.length * 5 ≤ k ∧ wr.ownsRow w.heap.size 9 1 v ss.length (strV ss) ∧ (∀ x ∈ ss, x.size ≤ 1048576) ∧
    Fr.scan s.data.toList = (bytes ss ++ (Fr.scan (s.data.toList.drop k)).1, (Fr.scan (s.data.toList.drop k)).2) ∧ Below w.heap.size w wr) (fun _ i _ => s.size - (intOf i).toNat)
  case atStart => exact ⟨0, [], by omega, rfl, by simp, World.ownsRow_nil _ _ _ _, by simp, by simp [bytes], Below.refl _ _⟩
  case round =>
    obtain ⟨k, ss, hk, rfl, hlen, hown, hsm, hsc, hbw⟩ := hrel
    have HOW := Lib.hid hown
    have HSM := Lib.hid hsm
    have HSC := Lib.hid hsc
    have HBW := Lib.hid hbw
    clear hown hsm hsc hbw
    have hdr : (s.extract k s.size).data.toList = s.data.toList.drop k := by
      rw [Lib.extract_data, List.take_of_length_le (by simp)]
    have hdl : (s.data.toList.drop k).length = s.size - k := by simp
    go_wp2_with fail
    refine (open_any (s.extract k s.size) wr (by rw [ByteArray.size_extract]; omega)).mono ?_
    rintro e w1 ⟨hop, hb1⟩
    unfold Opened at hop
    rw [hdr] at hop
    have HB1 := Lib.hid hb1
    have HDL := Lib.hid hdl
    clear hb1 hdr hdl
    cases ho : Fr.openF (s.data.toList.drop k) with
    | none =>
      rw [ho] at hop
      subst hop
      have hn := Fr.scan_none _ ho
      have HN := Lib.hid hn
      clear ho hn
      go_wp2_with fail
      go_ret2
      have hown1 := HOW.out.kept (grown1 HB1.out) (by cases hv : u2.ownBlock; exact Or.inl rfl; exact Or.inr (by simp))
      obtain ⟨A, c, rfl, hc, hcm, hr⟩ := own_slice hown1
      refine ⟨⟨A, ss.length, c, ss, ?_, hc, hcm, ?_, hr, HSM.out⟩, HBW.out.trans (HB1.out.mono HBW.out.size)⟩
      · rw [HSC.out, HN.out]
        simp only [HDL.out]
        have e1 : (s.size : Int) - ((s.size - k : Nat) : Int) = (k : Int) := by omega
        rw [e1]
        rfl
      · rw [HSC.out, HN.out]; simp
    | some pt =>
      obtain ⟨p, t⟩ := pt
      rw [ho] at hop
      subst hop
      have hsome := Fr.scan_some _ _ _ ho
      obtain ⟨hp, hst⟩ := Fr.open_spec _ _ _ ho
      have h5 := Fr.one_long p
      have htl : t.length + (Fr.one p).length = s.size - k := by
        have := congrArg List.length hst
        rw [List.length_append, HDL.out] at this
        omega
      have htd : s.data.toList.drop (s.size - t.length) = t := by
        have e1 : s.size - t.length = k + (Fr.one p).length := by omega
        rw [e1, ← List.drop_drop, hst]
        exact List.drop_left' rfl
      have HST := Lib.hid hsome
      have HTD := Lib.hid htd
      have hba : Below w1.heap.size w1 (w1.alloc (.cells #[.string ⟨p.toArray⟩] 9)) := (Below.refl _ _).alloc (Nat.le_refl _) _
      have hown1 := (HOW.out.kept (grown1 HB1.out) (by cases hv : u2.ownBlock; exact Or.inl rfl; exact Or.inr (by simp))).kept (grown1 hba) (by cases hv : u2.ownBlock; exact Or.inl rfl; exact Or.inr (by simp))
      have HBA := Lib.hid hba
      have HO1 := Lib.hid hown1
      have hts := size_list t
      have hrd : Reads (w1.alloc (.cells #[.string ⟨p.toArray⟩] 9)) (w1.heap.size + 1) 1 (some ⟨w1.heap.size, 0, none⟩) 1 [.string ⟨p.toArray⟩] := by
        refine ⟨rfl, fun _ => ⟨_, rfl, Nat.lt_succ_self _, fun j u hu => ?_⟩⟩
        have e : (⟨w1.heap.size, 0, none⟩ : Addr).add j = ⟨w1.heap.size, j, none⟩ := by simp [Addr.add]; try exact fun h => h.symm
        rw [e, (Blk.new w1 9 #[.string ⟨p.toArray⟩]).cell j]
        simpa using hu
      have HRD := Lib.hid hrd
      clear ho hsome hst htd hba hown1 hrd
      go_wp2_with (at_builtin; refine wpList_append_any _ rfl (.tmp 17) (.tmp 19) _ rfl w.heap.size 9 i0 _ 1 16 Try.underlying22 HI.out HZ0.out HZ1.out HZ2.out rfl (by omega) u2 ss.length (strV ss) rfl HO1.out (w1.heap.size + 1) (some ⟨w1.heap.size, 0, none⟩) 1 1 [.string ⟨p.toArray⟩] rfl HRD.out (by intro u hu; simp at hu; subst hu; rfl) ?c1 ?c2 ?c3 ?_)
      case c1 => unfold maxLen; omega
      case c2 => omega
      case c3 => have := HBW.out.size; have := HB1.out.size; simp; omega
      intro v2 w3 hown hg hat
      have hrow : ∀ j, u2.ownBlock = some j → w.heap.size ≤ j := fun j hj => (HO1.out.lt j hj).1
      have hb3 : Below w.heap.size w w3 := (((HBW.out.trans (HB1.out.mono HBW.out.size))).trans (HBA.out.mono (Nat.le_trans HBW.out.size HB1.out.size))).grown hg (by have := HBW.out.size; have := HB1.out.size; simp; omega) hrow
      have hown3 : w3.ownsRow w.heap.size 9 1 v2 (ss ++ [(⟨p.toArray⟩ : ByteArray)]).length (strV (ss ++ [(⟨p.toArray⟩ : ByteArray)])) := by
        simpa [strV] using hown
      have HOWN := Lib.hid hown3
      have HB3 := Lib.hid hb3
      clear hown hg hat hrow hb3 hown3
      go_wp2
      go_round
      case rel =>
        refine ⟨s.size - t.length, ss ++ [(⟨p.toArray⟩ : ByteArray)], by omega, by go_num, by simp; omega, HOWN.out, ?_, ?_, HB3.out⟩
        · intro x hx
          rcases List.mem_append.1 hx with h | h
          · exact HSM.out x h
          · simp at h; subst h; rw [size_list]; exact hp
        · rw [HSC.out, HST.out, HTD.out]
          simp [bytes]
      case measure => simp [intOf]; omega
end Go.Proofs.Ytehhhclpeefnmaa
