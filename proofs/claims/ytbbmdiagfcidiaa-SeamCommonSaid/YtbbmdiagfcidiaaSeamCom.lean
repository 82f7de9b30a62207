/-
  THE WALK OF SeamCommon: up to where any lists are known to be one is what the document says.
-/
import Derived.Test.YtbbmdiagfcidiaaSeamHint
namespace Go.Proofs.Ytbbmdiagfcidiaa
open Go.RowKit

theorem Try.infoInts : (Try.prog.info? 23).map (fun i => (i.zero, i.size, i.bytes)) = some (some (.slice none 0 0), 1, 24) := by kernel_rfl

/-- the lists' lengths together -/
def lens (ls : List (List Int)) : Nat := ls.foldl (fun m l => m + l.length) 0
theorem foldl_add (ls : List (List Int)) (a : Nat) : ls.foldl (fun m l => m + l.length) a = a + lens ls := by
  induction ls generalizing a with
  | nil => simp [lens]
  | cons x ls ih =>
    unfold lens
    simp only [List.foldl_cons]
    rw [ih, ih (0 + x.length)]
    omega
theorem lens_snoc (ls : List (List Int)) (k : Nat) (h : k < ls.length) : lens (ls.take (k + 1)) = lens (ls.take k) + (ls.getD k []).length := by
  rw [List.take_succ_eq_append_getElem h]
  unfold lens
  rw [List.foldl_append]
  simp [List.getD, h]
theorem lens_mem (ls : List (List Int)) (k : Nat) (h : k < ls.length) : (ls.getD k []).length ≤ lens ls := by
  induction ls generalizing k with
  | nil => cases h
  | cons x ls ih =>
    have e : lens (x :: ls) = x.length + lens ls := by
      unfold lens
      simp only [List.foldl_cons]
      rw [foldl_add]
      unfold lens
      omega
    rcases k with _ | k
    · simp only [List.getD_cons_zero]; omega
    · have := ih k (by simpa using h)
      simp only [List.getD_cons_succ]
      omega

/-- the lists as they came in: each of a length that the reach bounds -/
def LReads0 (w : World) (B : Nat) (A : Option Addr) (n : Nat) (ls : List (List Int)) : Prop :=
  ls.length = n ∧ ∀ k, k < n → ∃ ad Ai ni ci, A = some ad ∧ ad.block < B ∧ w.cell? (ad.add k) = some (.slice Ai ni ci) ∧ Reads w B 1 Ai ni (intV .i64 (ls.getD k [])) ∧ ni ≤ 17592186044416
theorem LReads0.small {w : World} {B : Nat} {A : Option Addr} {n : Nat} {ls : List (List Int)} (h : LReads0 w B A n ls) (hs : lens ls ≤ 2000) : LReads w B A n ls :=
  ⟨h.1, fun k hk => by
    obtain ⟨ad, Ai, ni, ci, hA, hb, hc, hr, _⟩ := h.2 k hk
    have := lens_mem ls k (by rw [h.1]; exact hk)
    rw [ints_len hr] at this
    exact ⟨ad, Ai, ni, ci, hA, hb, hc, hr, by omega⟩⟩

/-- lists that the call has copied: a row of its own, each element a list in memory -/
def Owned (w : World) (base : Nat) (v : Value) (ls : List (List Int)) : Prop :=
  (ls.length = 0 → v.ownBlock = none) ∧ ∃ xs : List Value, w.ownsRow base 23 1 v ls.length xs ∧ ∀ k, k < ls.length → ∃ g ni ci, xs[k]? = some (.slice (some ⟨g, 0, none⟩) ni ci) ∧ Reads w w.heap.size 1 (some ⟨g, 0, none⟩) ni (intV .i64 (ls.getD k [])) ∧ ni ≤ 4294967296

theorem reads_grown {w w' : World} {row : Option Nat} {g n : Nat} {xs : List Value} (h : Reads w w.heap.size 1 (some ⟨g, 0, none⟩) n xs) (hg : w.grownBy w' row) (hne : 0 < n → some g ≠ row) : Reads w' w'.heap.size 1 (some ⟨g, 0, none⟩) n xs := by
  refine ⟨h.1, fun hn => ?_⟩
  obtain ⟨ad, hA, hb, hc⟩ := h.2 hn
  injection hA with hA
  subst hA
  refine ⟨_, rfl, Nat.lt_of_lt_of_le hb hg.size, fun j u hu => ?_⟩
  rw [← hc j u hu]
  refine World.cell?_of_block ?_
  rw [block_of_add]
  exact hg.block g hb (hne hn)
theorem grown_of_below {a w : World} (h : Below a.heap.size a w) (row : Option Nat) : a.grownBy w row := ⟨h.os, h.tape, h.output, h.size, fun i hi _ => h.block i hi⟩

theorem Owned.below {w w' : World} {base : Nat} {v : Value} {ls : List (List Int)} (h : Owned w base v ls) (hb : Below w.heap.size w w') : Owned w' base v ls := by
  obtain ⟨h0, xs, ho, hk⟩ := h
  refine ⟨h0, xs, ho.kept (grown_of_below hb none) ?_, fun k hkl => ?_⟩
  · cases hv : v.ownBlock
    · exact Or.inl rfl
    · exact Or.inr (by simp)
  · obtain ⟨g, ni, ci, hx, hr, hn⟩ := hk k hkl
    exact ⟨g, ni, ci, hx, reads_grown hr (grown_of_below hb none) (fun _ => by simp), hn⟩

theorem row_base {w : World} {base : Nat} {e : TypeId} {size : Nat} {v : Value} {n : Nat} {xs : List Value} (h : w.ownsRow base e size v n xs) (j : Nat) (hj : v.ownBlock = some j) : base ≤ j := by
  rcases h.2 with ⟨rfl, rfl⟩ | ⟨g, cap, cur, rfl, hg, _⟩
  · simp [Value.ownBlock] at hj
  · simp [Value.ownBlock] at hj
    omega

/-- one list more: behind the append -/
theorem Owned.snoc {w w' : World} {base : Nat} {v v' : Value} {ls : List (List Int)} {xs : List Value} {l : List Int} {g ni ci : Nat} (hv0 : ls.length = 0 → v.ownBlock = none) (ho : w.ownsRow base 23 1 v ls.length xs)
    (hk : ∀ k, k < ls.length → ∃ g ni ci, xs[k]? = some (.slice (some ⟨g, 0, none⟩) ni ci) ∧ Reads w w.heap.size 1 (some ⟨g, 0, none⟩) ni (intV .i64 (ls.getD k [])) ∧ ni ≤ 4294967296)
    (hr : Reads w w.heap.size 1 (some ⟨g, 0, none⟩) ni (intV .i64 l)) (hn : ni ≤ 4294967296)
    (ho' : w'.ownsRow base 23 1 v' (ls.length + 1) (xs ++ [.slice (some ⟨g, 0, none⟩) ni ci])) (hg : w.grownBy w' v.ownBlock) : Owned w' base v' (ls ++ [l]) := by
  have hxl : xs.length = ls.length := by have := ho.1; omega
  -- a list's block is not the row's: the row holds slices, the list numbers
  have hne : ∀ (g' n' : Nat) (l' : List Int), Reads w w.heap.size 1 (some ⟨g', 0, none⟩) n' (intV .i64 l') → 0 < n' → 0 < ls.length → some g' ≠ v.ownBlock := by
    intro g' n' l' hr' hn' hl e
    obtain ⟨ad, u, hA, _, hu, hc⟩ := hr'.at_ hn'
    injection hA with hA
    subst hA
    obtain ⟨g0, n0, c0, hx0, _⟩ := hk 0 hl
    have h0 := ho.cells e.symm 0 _ hx0
    rw [h0] at hc
    have : 0 < l'.length := by have := hr'.1; simp [intV] at this; omega
    rw [intV_at .i64 l' 0 this] at hu
    injection hu with hu
    injection hc with hc
    rw [← hu] at hc
    cases hc
  refine ⟨by simp, _, by simpa using ho', fun k hkl => ?_⟩
  simp only [List.length_append, List.length_cons, List.length_nil] at hkl
  by_cases hkn : k < ls.length
  · obtain ⟨g', n', c', hx, hr', hn'⟩ := hk k hkn
    refine ⟨g', n', c', by rw [List.getElem?_append_left (by omega)]; exact hx, ?_, hn'⟩
    have e : (ls ++ [l]).getD k [] = ls.getD k [] := by simp [List.getD, List.getElem?_append_left hkn]
    rw [e]
    exact reads_grown hr' hg (fun h0 => hne g' n' _ hr' h0 (by omega))
  · obtain rfl : k = ls.length := by omega
    refine ⟨g, ni, ci, by rw [← hxl]; simp, ?_, hn⟩
    have e : (ls ++ [l]).getD ls.length [] = l := by simp [List.getD]
    rw [e]
    refine reads_grown hr hg (fun h0 => ?_)
    rcases Nat.eq_zero_or_pos ls.length with hz | hp
    · rw [hv0 hz]; simp
    · exact hne g ni l hr h0 hp


theorem Owned.lreads {w : World} {base : Nat} {v : Value} {ls : List (List Int)} (h : Owned w base v ls) : ∃ A c, v = .slice A ls.length c ∧ ls.length ≤ c ∧ c ≤ maxLen ∧ LReads w w.heap.size A ls.length ls := by
  obtain ⟨_, xs, ho, hk⟩ := h
  obtain ⟨A, c, hv, hc, hcm, hr⟩ := own_slice ho
  refine ⟨A, c, hv, hc, hcm, rfl, fun k hkl => ?_⟩
  obtain ⟨g, ni, ci, hx, hr', hn⟩ := hk k hkl
  obtain ⟨ad, u, hA, hb, hu, hcl⟩ := hr.at_ hkl
  rw [hx] at hu
  injection hu with hu
  subst hu
  exact ⟨ad, _, ni, ci, hA, hb, hcl, hr', hn⟩

set_option maxRecDepth 100000 in
set_option maxHeartbeats 1600000 in
theorem seamCommon_walk (w : World) (A : Option Addr) (n c : Nat) (ls : List (List Int)) (h : LReads0 w w.heap.size A n ls) (hn : n ≤ 5864062014805) :
    Calls Try.prog 3 #[.slice A n c] w fun e w' => e = .returned (.bool true) ∧ Below w.heap.size w w' := by
  have HLR := Lib.hid h
  clear h
  go_enter Try.func3, Try.ntmps3
  go_wp2
  go_loop [2, 3, 13] (fun f v i => ∃ k : Nat, k ≤ n ∧ i = .int .i64 k ∧ f = .bool false ∧ v = .int .i64 ((n : Int) + (lens (ls.take k) : Nat)) ∧ (k = 0 ∨ n + lens (ls.take k) ≤ 2000)) (fun _ _ i => n - (intOf i).toNat)
  case atStart => exact ⟨0, by omega, rfl, rfl, by simp [lens], Or.inl rfl⟩
  case round =>
    obtain ⟨k, hk, rfl, rfl, rfl, hsm⟩ := hrel
    obtain ⟨S, hS⟩ : ∃ S, S = lens (ls.take k) := ⟨_, rfl⟩
    rw [← hS] at hsm ⊢
    have hSb : S ≤ 2000 := by
      rcases hsm with h | h
      · subst h; rw [hS]; simp [lens]
      · omega
    have HS := Lib.hid hS
    have HSM := Lib.hid hsm
    clear hS hsm
    by_cases hkn : k < n
    · obtain ⟨ad, Ai, ni, ci, hA, _, hcl, hri, hni⟩ := HLR.out.2 k hkn
      subst hA
      have hsn := lens_snoc ls k (by rw [HLR.out.1]; exact hkn)
      rw [← HS.out, ints_len hri] at hsn
      have HSN := Lib.hid hsn
      clear hsn hri
      by_cases hbig : (2000 : Int) < (n : Int) + S + ni
      · go_wp2_with fail
        refine (awake_any _).mono ?_
        rintro e w1 ⟨rfl, hb1⟩
        go_wp2
        go_ret
        exact ⟨rfl, hb1⟩
      · go_wp2
        go_round
        case rel => exact ⟨k + 1, by omega, by go_num, rfl, by rw [HSN.out]; go_num, Or.inr (by rw [HSN.out]; omega)⟩
        case measure => simp [intOf]; omega
    · obtain rfl : n = k := by omega
      have hfin : n + S ≤ 2000 ∨ n = 0 := by
        rcases HSM.out with h | h
        · right; exact h
        · left; exact h
      have hSall : S = lens ls := by rw [HS.out, List.take_of_length_le (by rw [HLR.out.1]; exact Nat.le_refl _)]
      have hn2 : n ≤ 2000 := by omega
      have hsm2 : LReads w w.heap.size A n ls := HLR.out.small (by omega)
      have HLS := Lib.hid hsm2
      have hS0 : (n : Int) + S ≤ 2000 := by
        rcases hfin with h | h
        · omega
        · omega
      clear hfin hSall hsm2
      obtain ⟨i0, hi0, hz0, hz1, hz2⟩ := info_parts Try.infoInts
      have HI := Lib.hid hi0
      have HZ0 := Lib.hid hz0
      have HZ1 := Lib.hid hz1
      have HZ2 := Lib.hid hz2
      clear hi0 hz0 hz1 hz2
      go_wp2
      go_loopw [6, 27] (fun v i wr => ∃ k : Nat, k ≤ n ∧ i = .int .i64 k ∧ Owned wr w.heap.size v (ls.take k) ∧ Below w.heap.size w wr) (fun _ i _ => n - (intOf i).toNat)
      case atStart => exact ⟨0, by omega, rfl, ⟨fun _ => rfl, [], World.ownsRow_nil _ _ _ _, fun k hk => absurd hk (by simp)⟩, Below.refl _ _⟩
      case round =>
        obtain ⟨k, hk, rfl, hown, hbw⟩ := hrel
        have HBW := Lib.hid hbw
        clear hbw
        by_cases hkn : k < n
        · have HOWN := Lib.hid hown
          clear hown
          obtain ⟨ad, Ai, ni, ci, hA, hadb, hcl, hri, hni⟩ := HLS.out.2 k hkn
          subst hA
          have hcl2 : wr.cell? (ad.add k) = some (.slice Ai ni ci) := (HBW.out.cell (by rw [block_of_add]; exact hadb)).trans hcl
          have hri2 : Reads wr wr.heap.size 1 Ai ni (intV .i64 (ls.getD k [])) := (hri.below HBW.out).more HBW.out.size
          have HC := hide (own_any Ai ni ci (ls.getD k []) wr hri2 hni)
          clear hcl hri hri2
          go_wp2_with fail
          refine (HC.out).mono ?_
          rintro e w1 ⟨g, c', rfl, hgc, hgm, hgw, hgr, hb1⟩
          have hba : Below w1.heap.size w1 (w1.alloc (.cells #[.slice (some ⟨g, 0, none⟩) ni c'] 23)) := (Below.refl _ _).alloc (Nat.le_refl _) _
          have hown1 := (HOWN.out.below hb1).below hba
          have hgr2 := reads_grown hgr (grown_of_below hba none) (fun _ => by simp)
          obtain ⟨hv0, xs, hro, hrk⟩ := hown1
          have hks : (ls.take k).length = k := by rw [List.length_take, HLS.out.1]; omega
          have HKS := Lib.hid hks
          have HGR := Lib.hid hgr2
          have HB1 := Lib.hid hb1
          have HV0 := Lib.hid hv0
          have HRO := Lib.hid hro
          have HRK := Lib.hid hrk
          clear hgr hgr2 hb1 hv0 hro hrk hgc hgm hgw hba hks
          go_wp2_with (at_builtin; refine wpList_append_any _ rfl (.tmp 31) (.tmp 34) _ rfl w.heap.size 23 i0 _ 1 24 Try.underlying22 HI.out HZ0.out HZ1.out HZ2.out rfl (by omega) u6 (ls.take k).length xs rfl HRO.out (w1.heap.size + 1) (some ⟨w1.heap.size, 0, none⟩) 1 1 [.slice (some ⟨g, 0, none⟩) ni c'] rfl (reads_blk (Blk.new w1 _ _) 1 rfl (Nat.lt_succ_self _)) (by intro u hu; simp at hu; subst hu; rfl) ?c1 ?c2 ?c3 ?_)
          case c1 => rw [HKS.out]; unfold maxLen; omega
          case c2 => rw [HKS.out]; omega
          case c3 => have := HBW.out.size; have := HB1.out.size; simp; omega
          intro v2 w3 hown hg hat
          have hrow : ∀ j, u6.ownBlock = some j → w.heap.size ≤ j := row_base HRO.out
          have hb2 : Below w.heap.size w (w1.alloc (.cells #[.slice (some ⟨g, 0, none⟩) ni c'] 23)) := (HBW.out.trans (HB1.out.mono HBW.out.size)).alloc (by have := HBW.out.size; have := HB1.out.size; omega) _
          have hb3 : Below w.heap.size w w3 := hb2.grown hg (by have := HBW.out.size; have := HB1.out.size; simp; omega) hrow
          have hnew := Owned.snoc (v' := v2) (ci := c') HV0.out HRO.out HRK.out HGR.out hni (by rw [List.length_take]; exact hown) hg
          have htk : ls.take k ++ [ls.getD k []] = ls.take (k + 1) := by
            have hkl : k < ls.length := by rw [HLS.out.1]; exact hkn
            rw [List.take_succ_eq_append_getElem hkl]
            simp [List.getD, hkl]
          rw [htk] at hnew
          have HNEW := Lib.hid hnew
          have HB3 := Lib.hid hb3
          clear hown hg hat hrow hb2 hb3 hnew htk
          go_wp2
          go_round
          case rel => exact ⟨k + 1, by omega, by go_num, HNEW.out, HB3.out⟩
          case measure => simp [intOf]; omega
        · obtain rfl : n = k := by omega
          rw [List.take_of_length_le (by rw [HLS.out.1]; exact Nat.le_refl _)] at hown
          obtain ⟨A2, c2, rfl, hn2c, hc2m, hl2⟩ := hown.lreads
          rw [HLS.out.1] at hn2c hl2 ⊢
          have HL2 := Lib.hid hl2
          clear hown hl2
          have hle : decide ((n : Int) + S ≤ 2000) = true := by simpa using hS0
          go_wp2_with fail
          refine (awake_any _).mono ?_
          rintro e wa ⟨rfl, hba⟩
          have hl3 : LReads wa wa.heap.size A2 n ls := (HL2.out.below hba).more hba.size
          have hb4 : Below w.heap.size w wa := HBW.out.trans (hba.mono HBW.out.size)
          have hl4 : LReads wa wa.heap.size A n ls := (HLS.out.below hb4).more hb4.size
          have HC1 := Lib.hid (common_any A2 n c2 ls wa hl3 hn2c hc2m)
          have HL4 := Lib.hid hl4
          have HB4 := Lib.hid hb4
          clear hl3 hl4 hb4 hba
          go_wp2_with fail
          refine (HC1.out).mono ?_
          rintro e wb ⟨rfl, hdr⟩
          have HC2 := Lib.hid (refCommon_any A n c ls wb ((HL4.out.below (hdr.below _)).more (hdr.below 0).size) (by omega))
          have HDR := Lib.hid hdr
          clear hdr
          go_wp2_with fail
          refine (HC2.out).mono ?_
          rintro e wd ⟨rfl, hdr2⟩
          have HDR2 := Lib.hid (hdr2.below w.heap.size)
          clear hdr2
          go_wp2
          go_ret
          exact ⟨rfl, (HB4.out.trans (HDR.out.below _)).trans HDR2.out⟩

end Go.Proofs.Ytbbmdiagfcidiaa
