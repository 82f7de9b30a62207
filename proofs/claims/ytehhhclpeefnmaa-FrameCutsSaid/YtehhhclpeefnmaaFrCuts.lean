/-
  THE WALK OF FrameCuts.
-/
import Derived.Test.YtehhhclpeefnmaaFrSame
import Derived.Test.YtehhhclpeefnmaaFrLong
import Derived.Test.YtehhhclpeefnmaaOpen
import Derived.ProofKit
import Derived.SliceStrings
import Derived.ChangeOld
namespace Go.Proofs.Ytehhhclpeefnmaa
open Go.RowKit

theorem open_nil : Fr.openF [] = none := by
  unfold Fr.openF Fr.dec
  rfl
/-- frames that are cut off: just those are told that are all there -/
theorem scan_cut (l : List (List UInt8)) (hl : ∀ p ∈ l, p.length ≤ 1048576) (k cut : Nat) (h1 : (Fr.all (l.take k)).length ≤ cut) (h2 : k < l.length → cut < (Fr.all (l.take (k + 1))).length) :
    ∃ r, Fr.scan ((Fr.all l).take cut) = (l.take k, r) ∧ r.length = ((Fr.all l).take cut).length - (Fr.all (l.take k)).length := by
  have e0 : Fr.all l = Fr.all (l.take k) ++ Fr.all (l.drop k) := by rw [← Fr.all_append, List.take_append_drop]
  have e1 : (Fr.all l).take cut = Fr.all (l.take k) ++ (Fr.all (l.drop k)).take (cut - (Fr.all (l.take k)).length) := by
    rw [e0, List.take_append, List.take_of_length_le h1]
  have hn : Fr.openF ((Fr.all (l.drop k)).take (cut - (Fr.all (l.take k)).length)) = none := by
    rcases Nat.lt_or_ge k l.length with h | h
    · have h3 := h2 h
      rw [List.take_succ_eq_append_getElem h, Fr.all_append, List.length_append] at h3
      rw [List.drop_eq_getElem_cons h]
      refine Fr.open_cut _ _ (hl _ (List.getElem_mem h)) _ ?_
      simp [Fr.all] at h3
      omega
    · rw [List.drop_of_length_le h]
      simp [Fr.all, open_nil]
  have hs := Fr.scan_all (l.take k) ((Fr.all (l.drop k)).take (cut - (Fr.all (l.take k)).length)) fun p hp => hl p (List.mem_of_mem_take hp)
  rw [Fr.scan_none _ hn] at hs
  refine ⟨_, by rw [e1, hs]; simp; rfl, ?_⟩
  rw [e1, List.length_append]
  omega

/-- of frames that are cut off, in memory -/
theorem scan_take (ss : List ByteArray) (hs : sealable ss) (T : ByteArray) (hT : T = ⟨(Fr.all (bytes ss)).toArray⟩) (k K t : Nat) (hks : k ≤ ss.length) (ht : t = (Fr.all (bytes (ss.take k))).length) (hK : K ≤ T.size) (htK : t ≤ K) (hend : k < ss.length → K < (Fr.all (bytes (ss.take (k + 1)))).length) (W : World) (hK2 : K ≤ 1048576) :
    Calls Try.prog 15 #[.string (T.extract 0 K)] W fun e w' => (∃ A c, e = .returned (.tuple #[.slice A k c, .int .i64 (t : Int)]) ∧ k ≤ c ∧ c ≤ maxLen ∧ Reads w' w'.heap.size 1 A k (strV (ss.take k))) ∧ Below W.heap.size W w' := by
  have hsc := scan_cut (bytes ss) (by
    intro p hp
    simp only [bytes, List.mem_map] at hp
    obtain ⟨x, hx, rfl⟩ := hp
    have := hs x hx
    simpa using this) k K (by rw [← bytes_take, ← ht]; exact htK) (by
    intro hk
    rw [← bytes_take]
    exact hend (by simpa [bytes] using hk))
  have hd : (T.extract 0 K).data.toList = (Fr.all (bytes ss)).take K := by
    rw [Lib.extract_data, hT]; simp
  have hz : (T.extract 0 K).size = K := by rw [ByteArray.size_extract]; omega
  rw [← hd, ← bytes_take, ← ht] at hsc
  obtain ⟨r, hr, hrl⟩ := hsc
  have hzl : (T.extract 0 K).data.toList.length = K := by rw [← hz]; simp
  rw [hzl] at hrl
  refine (scan_any (T.extract 0 K) W (by rw [hz]; exact hK2)).mono ?_
  rintro e w' ⟨⟨A, n, c, tt, rfl, hnc, hc, htt, hR, _⟩, hb⟩
  rw [hr] at htt
  have htu : tt = ss.take k := bytes_inj htt
  subst htu
  have hn : n = k := by
    have h1 := hR.1
    simp [strV] at h1
    omega
  subst hn
  refine ⟨⟨A, c, ?_, hnc, hc, hR⟩, hb⟩
  rw [hr, hz]
  simp only [hrl]
  have e1 : (K : Int) - ((K - t : Nat) : Int) = (t : Int) := by omega
  rw [e1]

section
open Go.ChangeShapes Go.WideShapes Go.ChangeAt
/-- a slice of texts, with its capacity -/
theorem open_reads_caps {H : Type} {enc : TypeId × Value → H} {P : Program} {w : World} {t e : TypeId} (ht : P.underlying t = some (.slice e)) (he : P.underlying e = some .string) (hc : P.cellsOf e = 1) {A : Option Addr} {len cap : Nat} {d : DataW H} {p : List MemPlace}
    (h : DataW.Trod enc P w 0 (fun _ => true) true t (.slice A len cap) d p) : len ≤ cap ∧ cap ≤ maxLen := by
  obtain ⟨fuel, hf⟩ := h
  rcases open_strings ht he hc hf with ⟨hcs, _⟩ | ⟨a, len', cap', ss, hcs, _, hl, hm, hz, _, hcell, hws⟩
  · simp [Value.cells] at hcs
    obtain ⟨rfl, rfl, rfl⟩ := hcs
    exact ⟨Nat.le_refl _, by unfold maxLen; omega⟩
  · simp [Value.cells] at hcs
    obtain ⟨rfl, rfl, rfl⟩ := hcs
    exact ⟨hl, hm⟩
end

theorem cut_place (a : Int) (n : Nat) (hn : n ≤ 106496) : ∃ K : Nat, K ≤ n ∧ wrap64 ((IntKind.u64.wrap a).tmod ((n : Int) + 1)) = (K : Int) := by
  obtain ⟨z, hz⟩ : ∃ z, z = IntKind.u64.wrap a := ⟨_, rfl⟩
  have h0 : 0 ≤ z := by rw [hz]; exact wrap_u64_nonneg a
  rw [← hz, Int.tmod_eq_emod_of_nonneg h0]
  have h1 := Int.emod_nonneg z (show ((n : Int) + 1) ≠ 0 by omega)
  have h2 := Int.emod_lt_of_pos z (show (0 : Int) < (n : Int) + 1 by omega)
  refine ⟨(z % ((n : Int) + 1)).toNat, by omega, ?_⟩
  rw [IntWalk.wrap64_in _ (by omega)]
  omega

set_option maxRecDepth 100000 in
set_option maxHeartbeats 2000000 in
theorem frameCuts_walk (w : World) (A : Option Addr) (n c : Nat) (ss : List ByteArray) (h : Reads w w.heap.size 1 A n (strV ss)) (hn : n ≤ maxLen) (hm : ∀ s ∈ ss, s.size ≤ maxLen) (hnc : n ≤ c) (hcm : c ≤ maxLen) (cut : Int) (_hc : -9223372036854775808 ≤ cut ∧ cut ≤ 9223372036854775807) :
    Calls Try.prog 7 #[.slice A n c, .int .i64 cut] w fun e w' => e = .returned (.bool true) ∧ Below w.heap.size w w' := by
  have hlen : ss.length = n := by have := h.1; simp [strV] at this; omega
  have HR := Lib.hid h
  have HM := Lib.hid hm
  have HL := Lib.hid hlen
  have HN := Lib.hid hn
  clear h hlen hm hn
  unfold maxLen at hcm
  obtain ⟨i0, hi0, hz0, hz1, hz2⟩ := info_parts Try.infoStr
  have HI := Lib.hid hi0
  have HZ0 := Lib.hid hz0
  have HZ1 := Lib.hid hz1
  have HZ2 := Lib.hid hz2
  clear hi0 hz0 hz1 hz2
  go_enter Try.func7, Try.ntmps7
  go_wp2_with fail
  refine (awake_any w).mono ?_
  rintro e w1 ⟨rfl, hb1⟩
  have HB1 := Lib.hid hb1
  clear hb1
  go_wp2_with fail
  refine (many_any A n c ss w1 ((HR.out.below HB1.out).more HB1.out.size) HN.out).mono ?_
  rintro e w2 ⟨rfl, rfl | ⟨rfl, htot⟩⟩
  · go_wp2_with fail
    refine (awake_any w2).mono ?_
    rintro e w3 ⟨rfl, hb2⟩
    go_wp2
    go_ret
    exact ⟨rfl, HB1.out.trans (hb2.mono HB1.out.size)⟩
  · have hn2 : n ≤ 8192 := by have := tot_len ss; rw [HL.out] at this; omega
    have hfew := few htot
    have HF := Lib.hid hfew
    have hr2 : Reads w2 w2.heap.size 1 A n (strV ss) := (HR.out.below HB1.out).more HB1.out.size
    have HR2 := Lib.hid hr2
    clear hfew htot hr2
    go_wp2_with (at_builtin; refine wpList_append_any _ rfl (.tmp 23) (.tmp 24) _ rfl w2.heap.size 9 i0 _ 1 16 Try.underlying22 HI.out HZ0.out HZ1.out HZ2.out rfl (by omega) (.slice (some ⟨w2.heap.size, 0, none⟩) 0 0) 0 [] rfl (own_empty w2 _ 1) w2.heap.size A n c (strV ss) rfl (HR2.out.alloc (Nat.le_refl _) _) (strV_one ss) ?c1 ?c2 ?c3 ?_)
    case c1 => unfold maxLen; omega
    case c2 => omega
    case c3 => simp
    intro v1 w3 hown hg hat
    try simp only [Nat.zero_add, List.nil_append] at hown
    have hb2 : Below w2.heap.size w2 w3 := ((Below.refl _ _).alloc (Nat.le_refl _) _).grown hg (by simp) (by intro k hk; simp [Value.ownBlock] at hk; omega)
    obtain ⟨g1, c1, rfl, hc1, hcm1, hg1, hrd⟩ := own_some hown hat
    have HB2 := Lib.hid hb2
    have HD := Lib.hid hrd
    clear hown hg hat hrd hb2 hc1 hcm1 hg1
    go_wp2_with fail
    refine (seal_any _ n c1 ss w3 HD.out HN.out HM.out (by have := HF.out.2; omega)).mono ?_
    rintro e w4 ⟨hb4, h4⟩
    rcases h4 with ⟨_, rfl⟩ | ⟨h4, _⟩
    · have HB4 := Lib.hid hb4
      clear hb4
      have hr4 : Reads w4 w4.heap.size 1 A n (strV ss) := by
        have h1 := (HR2.out.below HB2.out).more HB2.out.size
        exact (h1.below HB4.out).more HB4.out.size
      have hbw4 : Below w.heap.size w w4 := by
        have s1 := HB1.out.size
        have s2 := HB2.out.size
        exact (HB1.out.trans (HB2.out.mono s1)).trans (HB4.out.mono (by omega))
      have HR4 := Lib.hid hr4
      have HW4 := Lib.hid hbw4
      clear hr4 hbw4
      obtain ⟨T, hT⟩ : ∃ T : ByteArray, T = ⟨(Fr.all (bytes ss)).toArray⟩ := ⟨_, rfl⟩
      have hTl : T.size = (Fr.all (bytes ss)).length := by rw [hT, size_list]
      have hTs : T.size ≤ 106496 := by rw [hTl]; exact HF.out.2
      rw [← hT]
      have HT := Lib.hid hT
      have HTL := Lib.hid hTl
      obtain ⟨K, hK, eK⟩ := cut_place cut T.size hTs
      have EK := Lib.hid eK
      clear hT hTl eK
      go_wp2_with fail
      simp only [EK.out]
      clear EK
      go_loopw [7, 8, 39] (fun a b i wr => ∃ k : Nat, k ≤ n ∧ a = .int .i64 k ∧ b = .int .i64 ((Fr.all (bytes (ss.take k))).length : Nat) ∧ i = .int .i64 k ∧ (Fr.all (bytes (ss.take k))).length ≤ K ∧ Below w4.heap.size w4 wr) (fun _ _ i _ => n - (intOf i).toNat)
      case atStart => exact ⟨0, by omega, rfl, by simp [bytes, Fr.all], rfl, by simp [bytes, Fr.all], Below.refl _ _⟩
      case round =>
        obtain ⟨k, hk, rfl, rfl, rfl, hto, hbw⟩ := hrel
        obtain ⟨t, ht⟩ : ∃ t, t = (Fr.all (bytes (ss.take k))).length := ⟨_, rfl⟩
        rw [← ht] at hto ⊢
        have HTO := Lib.hid ht
        have HBW := Lib.hid hbw
        clear ht hbw
        by_cases hkn : k < n
        · obtain ⟨ad, u, rfl, hadb, hu, hcl⟩ := HR4.out.at_ hkn
          have hks : k < ss.length := by rw [HL.out]; exact hkn
          rw [strV_at ss k hks] at hu
          injection hu with hu
          subst hu
          obtain ⟨s, hs⟩ : ∃ s, s = ss[k] := ⟨_, rfl⟩
          rw [← hs] at hcl
          have hsz : s.size ≤ 1048576 := by rw [hs]; exact HF.out.1 _ (List.getElem_mem hks)
          have hcl2 : wr.cell? (ad.add k) = some (.string s) := (HBW.out.cell (by rw [block_of_add]; exact hadb)).trans hcl
          have hsn := congrArg List.length (all_snoc ss k hks)
          rw [List.length_append, ← HTO.out, ← hs] at hsn
          have HSN := Lib.hid hsn
          clear hs hcl hsn
          go_wp2_with fail
          refine (seal1 s wr hsz).mono ?_
          rintro e w5 ⟨rfl, hb5⟩
          have HB5 := Lib.hid hb5
          obtain ⟨o, ho⟩ : ∃ o : ByteArray, o = ⟨(Fr.one s.data.toList).toArray⟩ := ⟨_, rfl⟩
          have hol : o.size = (Fr.one s.data.toList).length := by rw [ho, size_list]
          have hos : o.size ≤ 1048589 := by
            have h3 := Fr.enc_small (2 * s.data.toList.length) (by simp; omega)
            have h4 := Fr.one_len s.data.toList
            have h5 : s.data.toList.length = s.size := by simp
            rw [h5] at h3 h4
            omega
          rw [← ho]
          have HOL := Lib.hid hol
          clear hb5 ho hol
          by_cases hover : (K : Int) < (t : Int) + o.size
          · go_wp2_with fail
            refine (scan_take ss HF.out.1 T HT.out k K t (by rw [HL.out]; omega) HTO.out hK hto (fun _ => by rw [HSN.out, ← HOL.out]; omega) w5 (by omega)).mono ?_
            rintro e w6 ⟨⟨A1, d1, rfl, hd1, hd2, h6⟩, hb6⟩
            have hx : Reads w6 w6.heap.size 1 (some ad) k (strV (ss.take k)) := by
              have h1 := (HR4.out.below (HBW.out.trans (HB5.out.mono HBW.out.size))).more (HBW.out.trans (HB5.out.mono HBW.out.size)).size
              have h2 := ((h1.below hb6).more hb6.size).head (k := k) (by omega)
              have h3 : (strV ss).take (k * 1) = strV (ss.take k) := by simp [strV, List.map_take]
              rwa [h3] at h2
            have HB6 := Lib.hid ((HBW.out.trans (HB5.out.mono HBW.out.size)).trans (hb6.mono (HBW.out.trans (HB5.out.mono HBW.out.size)).size))
            have HR6 := Lib.hid h6
            have HX := Lib.hid hx
            clear hb6 h6 hx
            go_wp2_with fail
            refine (same_any A1 (some ad) k d1 _ (ss.take k) w6 HR6.out HX.out (by unfold maxLen; omega)).mono ?_
            rintro e w7 ⟨rfl, hb7⟩
            have HB7 := Lib.hid hb7
            clear hb7
            go_wp2
            go_ret
            have s4 := HW4.out.size
            have s6 := HB6.out.size
            exact ⟨rfl, (HW4.out.trans (HB6.out.mono s4)).trans (HB7.out.mono (by omega))⟩
          · go_wp2_with fail
            go_roundw
            case rel => exact ⟨k + 1, by omega, by go_num, by rw [HSN.out, ← HOL.out]; go_num, by go_num, by rw [HSN.out, ← HOL.out]; omega, HBW.out.trans (HB5.out.mono HBW.out.size)⟩
            case measure => simp [intOf]; omega
        · obtain rfl : n = k := by omega
          go_wp2_with fail
          refine (scan_take ss HF.out.1 T HT.out n K t (by rw [HL.out]; exact Nat.le_refl _) HTO.out hK hto (fun h => by rw [HL.out] at h; omega) wr (by omega)).mono ?_
          rintro e w6 ⟨⟨A1, d1, rfl, hd1, hd2, h6⟩, hb6⟩
          have hx : Reads w6 w6.heap.size 1 A n (strV (ss.take n)) := by
            have h1 := (HR4.out.below (HBW.out)).more (HBW.out).size
            have h2 := ((h1.below hb6).more hb6.size).head (k := n) (by omega)
            have h3 : (strV ss).take (n * 1) = strV (ss.take n) := by simp [strV, List.map_take]
            rwa [h3] at h2
          have HB6 := Lib.hid ((HBW.out).trans (hb6.mono (HBW.out).size))
          have HR6 := Lib.hid h6
          have HX := Lib.hid hx
          clear hb6 h6 hx
          go_wp2_with fail
          refine (same_any A1 A n d1 _ (ss.take n) w6 HR6.out HX.out (by unfold maxLen; omega)).mono ?_
          rintro e w7 ⟨rfl, hb7⟩
          have HB7 := Lib.hid hb7
          clear hb7
          go_wp2
          go_ret
          have s4 := HW4.out.size
          have s6 := HB6.out.size
          exact ⟨rfl, (HW4.out.trans (HB6.out.mono s4)).trans (HB7.out.mono (by omega))⟩
    · exact absurd HF.out.1 h4
end Go.Proofs.Ytehhhclpeefnmaa
