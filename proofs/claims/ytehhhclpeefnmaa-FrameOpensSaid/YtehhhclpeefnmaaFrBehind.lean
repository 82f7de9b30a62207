/-
  THE WALK OF FrameBehind.
-/
import Derived.Test.YtehhhclpeefnmaaFrSame
namespace Go.Proofs.Ytehhhclpeefnmaa
open Go.RowKit

theorem scan_rest (s : List UInt8) : (Fr.scan s).2.length ≤ s.length := by
  obtain ⟨n, hn⟩ : ∃ n, n = s.length := ⟨_, rfl⟩
  induction n using Nat.strongRecOn generalizing s with
  | _ n ih =>
    cases h : Fr.openF s with
    | none => rw [Fr.scan_none _ h]; exact Nat.le_refl _
    | some pt =>
      obtain ⟨p, t⟩ := pt
      have := Fr.open_short _ _ _ h
      rw [Fr.scan_some _ _ _ h]
      exact Nat.le_trans (ih t.length (by omega) t rfl) (by omega)

set_option maxRecDepth 100000 in
set_option maxHeartbeats 2000000 in
theorem frameBehind_walk (w : World) (A : Option Addr) (n c : Nat) (ss : List ByteArray) (h : Reads w w.heap.size 1 A n (strV ss)) (hn : n ≤ maxLen) (hm : ∀ s ∈ ss, s.size ≤ maxLen) (more : ByteArray) (hmore : more.size ≤ maxLen) :
    Calls Try.prog 8 #[.slice A n c, .string more] w fun e w' => e = .returned (.bool true) ∧ Below w.heap.size w w' := by
  have hlen : ss.length = n := by have := h.1; simp [strV] at this; omega
  unfold maxLen at hmore
  have HR := Lib.hid h
  have HM := Lib.hid hm
  have HL := Lib.hid hlen
  have HN := Lib.hid hn
  clear h hlen hm hn
  obtain ⟨i0, hi0, hz0, hz1, hz2⟩ := info_parts Try.infoStr
  have HI := Lib.hid hi0
  have HZ0 := Lib.hid hz0
  have HZ1 := Lib.hid hz1
  have HZ2 := Lib.hid hz2
  clear hi0 hz0 hz1 hz2
  go_enter Try.func8, Try.ntmps8
  go_wp2_with fail
  refine (awake_any w).mono ?_
  rintro e w1 ⟨rfl, hb1⟩
  have HB1 := Lib.hid hb1
  clear hb1
  go_wp2_with fail
  refine (many_any A n c ss w1 ((HR.out.below HB1.out).more HB1.out.size) HN.out).mono ?_
  rintro e w2 ⟨rfl, rfl | ⟨rfl, htot⟩⟩
  · go_wp2_with fail
    refine (awake_any w2).mono ?_
    rintro e w3 ⟨rfl, hb2⟩
    go_wp2
    go_ret
    exact ⟨rfl, HB1.out.trans (hb2.mono HB1.out.size)⟩
  · by_cases hbig : (4096 : Int) < more.size
    · clear htot
      go_wp2_with fail
      refine (awake_any w2).mono ?_
      rintro e w3 ⟨rfl, hb2⟩
      go_wp2
      go_ret
      exact ⟨rfl, HB1.out.trans (hb2.mono HB1.out.size)⟩
    · have hn2 : n ≤ 8192 := by have := tot_len ss; rw [HL.out] at this; omega
      have hfew := few htot
      have HF := Lib.hid hfew
      have hr2 : Reads w2 w2.heap.size 1 A n (strV ss) := (HR.out.below HB1.out).more HB1.out.size
      have HR2 := Lib.hid hr2
      clear hfew htot hr2
      go_wp2_with (at_builtin; refine wpList_append_any _ rfl (.tmp 24) (.tmp 25) _ rfl w2.heap.size 9 i0 _ 1 16 Try.underlying22 HI.out HZ0.out HZ1.out HZ2.out rfl (by omega) (.slice (some ⟨w2.heap.size, 0, none⟩) 0 0) 0 [] rfl (own_empty w2 _ 1) w2.heap.size A n c (strV ss) rfl (HR2.out.alloc (Nat.le_refl _) _) (strV_one ss) ?c1 ?c2 ?c3 ?_)
      case c1 => unfold maxLen; omega
      case c2 => omega
      case c3 => simp
      intro v1 w3 hown hg hat
      try simp only [Nat.zero_add, List.nil_append] at hown
      have hb2 : Below w2.heap.size w2 w3 := ((Below.refl _ _).alloc (Nat.le_refl _) _).grown hg (by simp) (by intro k hk; simp [Value.ownBlock] at hk; omega)
      obtain ⟨g1, c1, rfl, hc1, hcm, hg1, hrd⟩ := own_some hown hat
      have HB2 := Lib.hid hb2
      have HD := Lib.hid hrd
      clear hown hg hat hrd hb2 hc1 hcm hg1
      go_wp2_with fail
      refine (seal_any _ n c1 ss w3 HD.out HN.out HM.out (by have := HF.out.2; omega)).mono ?_
      rintro e w4 ⟨hb4, h4⟩
      rcases h4 with ⟨_, rfl⟩ | ⟨h4, _⟩
      · have HB4 := Lib.hid hb4
        clear hb4
        have hr4 : Reads w4 w4.heap.size 1 A n (strV ss) := by
          have h1 := (HR2.out.below HB2.out).more HB2.out.size
          exact (h1.below HB4.out).more HB4.out.size
        have hbw4 : Below w.heap.size w w4 := by
          have s1 := HB1.out.size
          have s2 := HB2.out.size
          exact (HB1.out.trans (HB2.out.mono s1)).trans (HB4.out.mono (by omega))
        have HR4 := Lib.hid hr4
        have HW4 := Lib.hid hbw4
        clear hr4 hbw4
        obtain ⟨T, hT⟩ : ∃ T : ByteArray, T = ⟨(Fr.all (bytes ss)).toArray⟩ := ⟨_, rfl⟩
        have hTs : T.size ≤ 106496 := by rw [hT, size_list]; exact HF.out.2
        rw [← hT]
        have HT := Lib.hid hT
        clear hT
        have hdl : (T ++ more).data.toList = Fr.all (bytes ss) ++ more.data.toList := by
          rw [HT.out]; simp [ByteArray.data_append]
        have hss : ∀ p ∈ bytes ss, p.length ≤ 1048576 := by
          intro p hp
          simp only [bytes, List.mem_map] at hp
          obtain ⟨x, hx, rfl⟩ := hp
          have := HF.out.1 x hx
          simpa using this
        have hsc := Fr.scan_all (bytes ss) more.data.toList hss
        rw [← hdl] at hsc
        have hts2 : (T ++ more).size = T.size + more.size := by simp
        have HSC := Lib.hid hsc
        have HT2 := Lib.hid hts2
        clear hdl hss hsc hts2
        go_wp2_with fail
        refine (scan_any (T ++ more) w4 (by rw [HT2.out]; omega)).mono ?_
        rintro e w5 ⟨⟨A1, n1, d1, tt, rfl, hnd1, hd1, htt, hr1, _⟩, hb5⟩
        rw [HSC.out] at htt
        simp only [HSC.out, HT2.out]
        obtain ⟨R, hR⟩ : ∃ R, R = (Fr.scan more.data.toList).2.length := ⟨_, rfl⟩
        rw [← hR]
        have hRb : R ≤ more.size := by rw [hR]; exact Nat.le_trans (scan_rest _) (by simp)
        have HRR := Lib.hid hR
        have HTT := Lib.hid htt
        have HR1 := Lib.hid hr1
        have HB5 := Lib.hid hb5
        clear hR htt hr1 hb5
        go_wp2_with fail
        refine (scan_any more w5 (by omega)).mono ?_
        rintro e w6 ⟨⟨A2, n2, d2, uu, rfl, hnd2, hd2, huu, hr2, _⟩, hb6⟩
        rw [← HRR.out]
        have htu : tt = ss ++ uu := by
          apply bytes_inj
          have hu := HTT.out
          rw [hu, ← huu]
          simp [bytes]
        subst htu
        have hn1 : n1 = n + n2 := by
          have h1 := HR1.out.1
          have h2 := hr2.1
          have h3 := HL.out
          simp [strV] at h1 h2
          omega
        have HU := Lib.hid huu
        have HR2' := Lib.hid hr2
        have HB6 := Lib.hid hb6
        have hx1 : Reads w6 w6.heap.size 1 A1 n1 (strV (ss ++ uu)) := (HR1.out.below HB6.out).more HB6.out.size
        have hx0 : Reads w6 w6.heap.size 1 A n (strV ss) := by
          have h1 := (HR4.out.below HB5.out).more HB5.out.size
          exact (h1.below HB6.out).more HB6.out.size
        have HX1 := Lib.hid hx1
        have HX0 := Lib.hid hx0
        clear huu hr2 hb6 hx1 hx0
        subst hn1
        unfold maxLen at hd1 hd2
        go_wp2_with fail
        have hh : Reads w6 w6.heap.size 1 A1 n (strV ss) := by
          have h1 := HX1.out.head (k := n) (by omega)
          have h2 : (strV (ss ++ uu)).take (n * 1) = strV ss := by
            simp [strV, HL.out]
          rwa [h2] at h1
        refine (same_any A1 A n d1 c ss w6 hh HX0.out HN.out).mono ?_
        rintro e w7 ⟨rfl, hb7⟩
        have HB7 := Lib.hid hb7
        have hcc : Reads w7 w7.heap.size 1 (if d1 = n then A1 else A1.map (·.add n)) n2 (strV uu) := by
          have h1 := ((HX1.out.cut (k := n) (cap := d1) (by omega) hnd1).below HB7.out).more HB7.out.size
          have h2 : (strV (ss ++ uu)).drop (n * 1) = strV uu := by
            simp [strV, HL.out]
          rw [h2, Nat.mul_one] at h1
          have h3 : n + n2 - n = n2 := by omega
          rwa [h3] at h1
        have hdd : Reads w7 w7.heap.size 1 A2 n2 (strV uu) := (HR2'.out.below HB7.out).more HB7.out.size
        have HDD := Lib.hid hdd
        clear hh hb7 hdd
        by_cases hdn : d1 = n
        · rw [if_pos hdn] at hcc
          have HCC := Lib.hid hcc
          clear hcc
          go_wp2_with fail
          refine (same_any A1 A2 n2 _ d2 uu w7 HCC.out HDD.out (by unfold maxLen; omega)).mono ?_
          rintro e w8 ⟨rfl, hb8⟩
          have HB8 := Lib.hid hb8
          clear hb8
          go_wp2
          go_ret
          have s4 := HW4.out.size
          have s5 := HB5.out.size
          have s6 := HB6.out.size
          have s7 := HB7.out.size
          exact ⟨congrArg (fun b => Ending.returned (.bool b)) (by simp; omega), (((HW4.out.trans (HB5.out.mono s4)).trans (HB6.out.mono (by omega))).trans (HB7.out.mono (by omega))).trans (HB8.out.mono (by omega))⟩
        · rw [if_neg hdn] at hcc
          have HCC := Lib.hid hcc
          clear hcc
          go_wp2_with fail
          refine (same_any _ A2 n2 _ d2 uu w7 HCC.out HDD.out (by unfold maxLen; omega)).mono ?_
          rintro e w8 ⟨rfl, hb8⟩
          have HB8 := Lib.hid hb8
          clear hb8
          go_wp2
          go_ret
          have s4 := HW4.out.size
          have s5 := HB5.out.size
          have s6 := HB6.out.size
          have s7 := HB7.out.size
          exact ⟨congrArg (fun b => Ending.returned (.bool b)) (by simp; omega), (((HW4.out.trans (HB5.out.mono s4)).trans (HB6.out.mono (by omega))).trans (HB7.out.mono (by omega))).trans (HB8.out.mono (by omega))⟩
      · exact absurd HF.out.1 h4
end Go.Proofs.Ytehhhclpeefnmaa
