/-
  THE WALKS OF THE LANE: the reference's copy of operations, with the block that it lies in; operations numbered.
-/
import Derived.Test.YtaipgdhdfpemcaaLaOwn
namespace Go.Proofs.Ytaipgdhdfpemcaa
open Go.RowKit

set_option maxRecDepth 100000 in
set_option maxHeartbeats 4000000 in
/-- the reference's copy of operations, a row of the call's own -/
theorem ownOps_row (A : Option Addr) (n cap : Nat) (cs : List OpC) (w : World) {S : Nat → Prop} (h : OpsIs w S A n cap cs) (hn : n ≤ 4294967296) (hok : ∀ c ∈ cs, c.Ok) :
    Calls Try.prog 34 #[.slice A n cap] w fun e w' => ∃ v os, e = .returned v ∧ w'.ownsRow w.heap.size 45 9 v n (opsV os) ∧ OpsV w' (Off w.heap.size v.ownBlock) os cs ∧ Below w.heap.size w w' := by
  have hlen := h.len
  have HR := Lib.hid h
  have HL := Lib.hid hlen
  have HO := Lib.hid hok
  clear h hlen hok
  obtain ⟨i0, hi0, hz0, hz1, hz2⟩ := info_parts Try.infoOp
  have HI := Lib.hid hi0
  have HZ0 := Lib.hid hz0
  have HZ1 := Lib.hid hz1
  have HZ2 := Lib.hid hz2
  obtain ⟨j0, hj0, hy0, hy1, hy2⟩ := info_parts Try.infoStr
  have HJ := Lib.hid hj0
  have HY0 := Lib.hid hy0
  have HY1 := Lib.hid hy1
  have HY2 := Lib.hid hy2
  clear hi0 hz0 hz1 hz2 hj0 hy0 hy1 hy2
  go_enter Try.func34, Try.ntmps34
  go_wp2_with fail
  go_loopw [3, 4] (fun v i wr => ∃ (k : Nat) (os : List Opd), k ≤ n ∧ i = .int .i64 k ∧ wr.ownsRow w.heap.size 45 9 v k (opsV os) ∧ OpsV wr (Off w.heap.size v.ownBlock) os (cs.take k) ∧ Below w.heap.size w wr) (fun _ i _ => n - (intOf i).toNat)
  case atStart => exact ⟨0, [], by omega, rfl, World.ownsRow_nil _ _ _ _, by simp [OpsV], Below.refl _ _⟩
  case round =>
    obtain ⟨k, os, hk, rfl, hown, hov, hb⟩ := hrel
    have HB := Lib.hid hb
    have HV := Lib.hid hov
    have HW := Lib.hid hown
    clear hb hov hown
    rcases Nat.lt_or_ge k n with hk1 | hk1
    · obtain ⟨ad, c, hA, hn', hc, rfl, hab, hck, hop, hss⟩ := (HR.out.below HB.out).at_ hk1
      have hl := hss.len
      have ho := HO.out c (List.mem_of_getElem? hck)
      have hz2 : hn' * 16 ≤ 140737488351232 := by have := ho.hs; omega
      have htk : cs.take (k + 1) = cs.take k ++ [c] := by rw [List.take_add_one, hck]; rfl
      have HTK := Lib.hid htk
      obtain ⟨k0, k1, k2, k3, k4, k5, k6, k7, k8⟩ := hop
      simp only [OpC.at_] at k0 k1 k2 k3 k4 k5 k6 k7 k8
      obtain ⟨x1, x2, x3, x4, x5, x6, x7, x8, x9⟩ := c
      simp only at k0 k1 k2 k3 k4 k5 k6 k7 k8 hss
      have HS := Lib.hid hss
      clear hck hss hl ho htk
      have hbx : Blk (wr.alloc (.cells #[.int .i64 x1, .int .i64 x2, .int .i64 x3, .int .i64 x4, .int .i64 x5, .int .i64 x6, .string x7, .int .i64 x8, .slice hA hn' hc] 45)) wr.heap.size 45 #[.int .i64 x1, .int .i64 x2, .int .i64 x3, .int .i64 x4, .int .i64 x5, .int .i64 x6, .string x7, .int .i64 x8, .slice hA hn' hc] := Blk.new _ _ _
      have HBX := Lib.hid hbx
      have hb0 : Below wr.heap.size wr (wr.alloc (.cells #[.int .i64 x1, .int .i64 x2, .int .i64 x3, .int .i64 x4, .int .i64 x5, .int .i64 x6, .string x7, .int .i64 x8, .slice hA hn' hc] 45)) := (Below.refl _ _).alloc (Nat.le_refl _) _
      have HB0 := Lib.hid hb0
      clear hbx hb0
      obtain ⟨W1, hW1⟩ : ∃ W1, W1 = wr.alloc (.cells #[.int .i64 x1, .int .i64 x2, .int .i64 x3, .int .i64 x4, .int .i64 x5, .int .i64 x6, .string x7, .int .i64 x8, .slice hA hn' hc] 45) := ⟨_, rfl⟩
      have hsz : W1.heap.size = wr.heap.size + 1 := by rw [hW1]; simp
      have hem := own_empty (wr.alloc (.cells #[.int .i64 x1, .int .i64 x2, .int .i64 x3, .int .i64 x4, .int .i64 x5, .int .i64 x6, .string x7, .int .i64 x8, .slice hA hn' hc] 45)) 9 1
      have es : (wr.alloc (.cells #[.int .i64 x1, .int .i64 x2, .int .i64 x3, .int .i64 x4, .int .i64 x5, .int .i64 x6, .string x7, .int .i64 x8, .slice hA hn' hc] 45)).heap.size = wr.heap.size + 1 := by simp
      rw [es] at hem
      have HEM := Lib.hid hem
      clear hem es hW1 hsz W1
      go_wp2_with (at_builtin; refine wpList_append_any _ rfl (.tmp 16) (.tmp 19) _ rfl (wr.heap.size + 1) 9 j0 _ 1 16 Try.underlying24 HJ.out HY0.out HY1.out HY2.out rfl (by omega) (.slice (some ⟨wr.heap.size + 1, 0, none⟩) 0 0) 0 [] rfl HEM.out wr.heap.size hA hn' hc (strV x9) rfl (((HS.out.1.reads.below HB0.out)).alloc (by simp) _) (strV_one x9) ?c1 ?c2 ?c3 ?_)
      case c1 => unfold maxLen; omega
      case c2 => omega
      case c3 => simp
      intro v1 w2 hown1 hg1 hat1
      try simp only [Nat.zero_add, List.nil_append] at hown1
      obtain ⟨g1, c1, cur1, rfl, hc1, hcm1, hge1, _, hrd1⟩ := own_blk hown1 hat1
      have hbk2 := (HBX.out.alloc (.cells #[] 9)).grown hg1 (by simp [Value.ownBlock])
      have d0 := hbk2.cell 0
      have d1 := hbk2.cell 1
      have d2 := hbk2.cell 2
      have d3 := hbk2.cell 3
      have d4 := hbk2.cell 4
      have d5 := hbk2.cell 5
      have d6 := hbk2.cell 6
      have d7 := hbk2.cell 7
      have d8 := hbk2.cell 8
      have f8 := hbk2.frozen 8
      simp at d0 d1 d2 d3 d4 d5 d6 d7 d8
      have HG1 := Lib.hid hg1
      have HRD1 := Lib.hid hrd1
      have hs2 : wr.heap.size + 2 ≤ w2.heap.size := by have := hg1.size; simpa using this
      have hown2 : w2.ownsRow w.heap.size 45 9 u3 k (opsV os) := ((HW.out.alloc _).alloc _).kept hg1 (by
        rcases hv : u3.ownBlock with _ | b
        · exact .inl rfl
        · refine .inr fun e => ?_
          have := (HW.out.lt b hv).2
          simp [Value.ownBlock] at e
          omega)
      have hown3 := hown2.kept (grown_set w2 ⟨wr.heap.size, 8, none⟩ (.slice (some ⟨g1, 0, none⟩) hn' c1)) (by
        rcases hv : u3.ownBlock with _ | b
        · exact .inl rfl
        · refine .inr fun e => ?_
          have := (HW.out.lt b hv).2
          simp at e
          omega)
      have HW3 := Lib.hid hown3
      have hnb : Blk ((w2.setCell ⟨wr.heap.size, 8, none⟩ (.slice (some ⟨g1, 0, none⟩) hn' c1)).alloc (.cells #[.int .i64 x1, .int .i64 x2, .int .i64 x3, .int .i64 x4, .int .i64 x5, .int .i64 x6, .string x7, .int .i64 x8, .slice (some ⟨g1, 0, none⟩) hn' c1] 45)) w2.heap.size 45 #[.int .i64 x1, .int .i64 x2, .int .i64 x3, .int .i64 x4, .int .i64 x5, .int .i64 x6, .string x7, .int .i64 x8, .slice (some ⟨g1, 0, none⟩) hn' c1] := by
        have := Blk.new (w2.setCell ⟨wr.heap.size, 8, none⟩ (.slice (some ⟨g1, 0, none⟩) hn' c1)) 45 #[.int .i64 x1, .int .i64 x2, .int .i64 x3, .int .i64 x4, .int .i64 x5, .int .i64 x6, .string x7, .int .i64 x8, .slice (some ⟨g1, 0, none⟩) hn' c1]
        rwa [setCell_size] at this
      have HNB := Lib.hid hnb
      clear hown1 hg1 hat1 hrd1 hbk2 hown2 hown3 hnb
      go_wp2_with (at_builtin; refine wpList_append_any _ rfl (.tmp 23) (.tmp 25) _ rfl w.heap.size 45 i0 _ 9 96 Try.underlying28 HI.out HZ0.out HZ1.out HZ2.out rfl (by omega) u3 k (opsV os) rfl (HW3.out.alloc _) _ (some ⟨w2.heap.size, 0, none⟩) 1 1 (opsV [OpC.at_ ⟨x1, x2, x3, x4, x5, x6, x7, x8, x9⟩ (some ⟨g1, 0, none⟩) hn' c1]) rfl (HNB.out.reads (n := 1) (size := 9) rfl) (opsV_one _) ?d1 ?d2 ?d3 ?_)
      case d1 => unfold maxLen; omega
      case d2 => omega
      case d3 => have := HB.out.size; simp; omega
      intro v2 w5 hown5 hg5 hat5
      have hat6 : v2.ownBlock = u3.ownBlock ∨ v2.ownBlock = some (w2.heap.size + 1) := by simpa using hat5
      obtain ⟨e1, e3⟩ := own_round (c := ⟨x1, x2, x3, x4, x5, x6, x7, x8, x9⟩) HB.out HV.out HW.out _ _ HG1.out g1 c1 hge1 HRD1.out ⟨hc1, hcm1⟩ _ _ _ hg5 hat6
      have E1 := Lib.hid e1
      have E3 := Lib.hid e3
      have E4 := Lib.hid hown5
      clear e1 e3 hown5 hg5 hat5 hat6
      go_wp2
      go_roundw
      case rel => exact ⟨k + 1, os ++ [OpC.at_ ⟨x1, x2, x3, x4, x5, x6, x7, x8, x9⟩ (some ⟨g1, 0, none⟩) hn' c1], by omega, by go_num, by rw [opsV_append]; exact E4.out, by rw [HTK.out]; exact E1.out, E3.out⟩
      case measure => simp [intOf]; omega
    · obtain rfl : n = k := by omega
      have hv := HV.out
      rw [List.take_of_length_le (by rw [HL.out]; exact Nat.le_refl _)] at hv
      have HV2 := Lib.hid hv
      clear hv
      go_wp2
      go_ret
      exact ⟨_, os, rfl, HW.out, HV2.out, HB.out⟩

/-- operations with their numbers in order -/
def numO (i : Nat) : List Opd → List Opd
  | [] => []
  | o :: l => { o with n := ((i : Nat) : Int) + 1 } :: numO (i + 1) l
def numC (i : Nat) : List OpC → List OpC
  | [] => []
  | c :: l => { c with n := ((i : Nat) : Int) + 1 } :: numC (i + 1) l
theorem numO_len (i : Nat) (l : List Opd) : (numO i l).length = l.length := by
  induction l generalizing i with
  | nil => rfl
  | cons a l ih => simp [numO, ih]
theorem numC_len (i : Nat) (l : List OpC) : (numC i l).length = l.length := by
  induction l generalizing i with
  | nil => rfl
  | cons a l ih => simp [numC, ih]
theorem numO_at (i : Nat) (l : List Opd) (k : Nat) (o : Opd) (h : l[k]? = some o) : (numO i l)[k]? = some { o with n := ((i + k : Nat) : Int) + 1 } := by
  induction l generalizing i k with
  | nil => simp at h
  | cons a l ih =>
    rcases k with _ | k
    · simp only [List.getElem?_cons_zero, Option.some.injEq] at h
      subst h
      simp [numO]
    · have := ih (i + 1) k (by simpa using h)
      simp only [numO, List.getElem?_cons_succ]
      rw [this, show i + 1 + k = i + (k + 1) by omega]
theorem numC_at (i : Nat) (l : List OpC) (k : Nat) (o : OpC) (h : l[k]? = some o) : (numC i l)[k]? = some { o with n := ((i + k : Nat) : Int) + 1 } := by
  induction l generalizing i k with
  | nil => simp at h
  | cons a l ih =>
    rcases k with _ | k
    · simp only [List.getElem?_cons_zero, Option.some.injEq] at h
      subst h
      simp [numC]
    · have := ih (i + 1) k (by simpa using h)
      simp only [numC, List.getElem?_cons_succ]
      rw [this, show i + 1 + k = i + (k + 1) by omega]
theorem OpsV.numb {w : World} {S : Nat → Prop} : ∀ {ds : List Opd} {cs : List OpC} (i : Nat), OpsV w S ds cs → OpsV w S (numO i ds) (numC i cs)
  | [], [], _, _ => trivial
  | o :: ds, c :: cs, i, h => by
    obtain ⟨⟨A, n, cap, e, hs⟩, h2⟩ := h
    subst e
    exact ⟨⟨A, n, cap, rfl, hs⟩, OpsV.numb (i + 1) h2⟩
  | [], _ :: _, _, h => h.elim
  | _ :: _, [], _, h => h.elim
theorem opsV_cons (o : Opd) (l : List Opd) : opsV (o :: l) = o.cells ++ opsV l := by simp [opsV]
/-- one more number -/
theorem numO_step (os : List Opd) (k : Nat) (h : k < os.length) :
    (opsV ((numO 0 os).take k ++ os.drop k)).set (k * 9) (.int .i64 ((k : Int) + 1)) = opsV ((numO 0 os).take (k + 1) ++ os.drop (k + 1)) := by
  have ho : os[k]? = some os[k] := List.getElem?_eq_getElem h
  have hN := numO_at 0 os k _ ho
  have hl : (opsV ((numO 0 os).take k)).length = k * 9 := by rw [opsV_len, List.length_take, numO_len]; congr 1; omega
  rw [List.take_add_one, hN, List.drop_eq_getElem_cons h, opsV_append, opsV_append, opsV_append, opsV_cons, List.set_append_right _ _ (by omega), hl, Nat.sub_self, List.append_assoc]
  congr 1
  simp [Option.toList, opsV, Opd.cells]
theorem Reads.set_ {w : World} {B size n : Nat} {ad : Addr} {xs : List Value} (h : Reads w B size (some ad) n xs) (j0 : Nat) (u : Value) (hj : j0 < xs.length) (hn : 0 < n) : Reads (w.setCell (ad.add j0) u) B size (some ad) n (xs.set j0 u) := by
  refine ⟨by rw [List.length_set]; exact h.1, fun _ => ?_⟩
  obtain ⟨ad', e, hb, hc⟩ := h.2 hn
  injection e with e
  subst e
  refine ⟨_, rfl, hb, fun j v hv => ?_⟩
  rw [List.getElem?_set] at hv
  by_cases hj0 : j0 = j
  · subst hj0
    rw [if_pos rfl, if_pos hj] at hv
    injection hv with hv
    subst hv
    have hx := hc j0 _ (List.getElem?_eq_getElem hj)
    exact World.cell?_setCell_same w _ u (by rw [hx])
  · rw [if_neg hj0] at hv
    rw [World.cell?_setCell_other _ _ _ _ (fun e => hj0 ?_)]
    · exact hc j v hv
    · have e1 : (ad.add j).off = (ad.add j0).off := by rw [e]
      unfold Addr.add at e1
      by_cases h1 : j = 0 <;> by_cases h2 : j0 = 0 <;> simp [h1, h2] at e1 <;> omega

/-- what 'numbered' makes of operations -/
def numbC (cs : List OpC) : List OpC := numC 0 (cs.take 80)

set_option maxRecDepth 100000 in
set_option maxHeartbeats 4000000 in
theorem numbered_some (ad : Addr) (n cap : Nat) (cs : List OpC) (w : World) {S : Nat → Prop} (h : OpsIs w S (some ad) n cap cs) (hn : n ≤ 4294967296) (hok : ∀ c ∈ cs, c.Ok) :
    Calls Try.prog 31 #[.slice (some ad) n cap] w fun e w' => ∃ A' n' cap', e = .returned (.slice A' n' cap') ∧ OpsIs w' (From w.heap.size) A' n' cap' (numbC cs) ∧ n' ≤ 80 ∧ Below w.heap.size w w' := by
  obtain ⟨n1, hn1⟩ : ∃ n1, n1 = min n 80 := ⟨_, rfl⟩
  have hlen := h.len
  have hcap : n ≤ cap := by obtain ⟨_, _, _, h, _⟩ := h; exact h
  have hcm : cap ≤ maxLen := by obtain ⟨_, _, _, _, h⟩ := h; exact h
  have ht : OpsIs w S (some ad) n1 cap (cs.take 80) := by
    obtain ⟨os, h1, h2, h3, h4⟩ := h
    refine ⟨os.take n1, ?_, ?_, by omega, h4⟩
    · have hl := h2.len
      rw [← opsV_take os n1 (by omega)]
      refine ⟨?_, fun hn => ?_⟩
      · rw [List.length_take, h1.1]; omega
      · obtain ⟨ad', e, x1, x2, x3⟩ := h1.2 (by omega)
        refine ⟨ad', e, x1, x2, fun j u hu => x3 j u ?_⟩
        rw [List.getElem?_take] at hu
        split at hu
        · exact hu
        · cases hu
    · have e : cs.take 80 = cs.take n1 := by
        by_cases h80 : 80 < n
        · congr 1; omega
        · rw [List.take_of_length_le (by omega), List.take_of_length_le (by omega)]
      rw [e]
      exact h2.take n1
  have hok' : ∀ c ∈ cs.take 80, c.Ok := fun c hc => hok c (List.mem_of_mem_take hc)
  have HT := Lib.hid ht
  have HO := Lib.hid hok'
  have hn80 : n1 ≤ 80 := by omega
  have hnc : n1 ≤ cap := by omega
  have HM := Lib.hid hn1
  have hloop : ∀ (v : Value) (os : List Opd) (w1 : World), w1.ownsRow w.heap.size 45 9 v n1 (opsV os) → 0 < n1 → ∃ g c cur, v = .slice (some ⟨g, 0, none⟩) n1 c ∧ n1 ≤ c ∧ c ≤ maxLen ∧ w.heap.size ≤ g ∧ Blk w1 g 45 cur ∧ Reads w1 w1.heap.size 9 (some ⟨g, 0, none⟩) n1 (opsV os) := by
    intro v os w1 ho hp
    rcases ho.2 with ⟨rfl, rfl⟩ | ⟨g, cap, cur, rfl, hg, hh, hn, hm, _⟩
    · omega
    · exact ⟨g, cap, cur, rfl, hn, hm, hg, hh, Reads.of_own (c := cap) ho⟩
  have HLP := Lib.hid hloop
  clear h hok hok' ht hn1 hloop hlen hcm
  by_cases h80 : 80 < n
  · have e1 : n1 = 80 := by have := HM.out; omega
    subst e1
    have t80 : decide ((80 : Int) < (n : Nat)) = true := decide_eq_true (by omega)
    go_enter Try.func31, Try.ntmps31
    go_wp2_with fail
    refine (ownOps_row (some ad) 80 cap (cs.take 80) w HT.out (by omega) HO.out).mono ?_
    rintro e w1 ⟨v, os, rfl, hown, hov, hb⟩
    have hol : os.length = 80 := by have := hown.1; rw [opsV_len] at this; omega
    have HB := Lib.hid hb
    have HV := Lib.hid hov
    have HOL := Lib.hid hol
    rcases Nat.eq_zero_or_pos 80 with h0 | hpos
    · exact absurd h0 (by omega)
    · obtain ⟨g, c', cur, rfl, hc1, hcm, hge, hbk, hrd⟩ := HLP.out v os w1 hown hpos
      have HBK := Lib.hid hbk
      have HRD := Lib.hid hrd
      have HCM := Lib.hid hcm
      clear hown hov hb hol hbk hrd hcm
      go_wp2_with fail
      go_loopw [13] (fun i wr => ∃ (k : Nat) (cu : Array Value), k ≤ 80 ∧ i = .int .i64 k ∧ Blk wr g 45 cu ∧ Reads wr wr.heap.size 9 (some ⟨g, 0, none⟩) 80 (opsV ((numO 0 os).take k ++ os.drop k)) ∧ OpsV wr (Off w.heap.size (some g)) os (cs.take 80) ∧ Below w.heap.size w wr) (fun i _ => 80 - (intOf i).toNat)
      case atStart => exact ⟨0, cur, by omega, rfl, HBK.out, by simpa using HRD.out, HV.out, HB.out⟩
      case round =>
        obtain ⟨k, cu, hk, rfl, hbk, hrd, hov, hb⟩ := hrel
        rcases Nat.lt_or_ge k 80 with hk1 | hk1
        · have f0 := hbk.frozen (k * 9)
          have hxl : (opsV ((numO 0 os).take k ++ os.drop k)).length = 80 * 9 := hrd.1
          obtain ⟨ad2, ea, _, hcell⟩ := hrd.2 hpos
          injection ea with ea
          subst ea
          have e9 : (⟨g, 0, none⟩ : Addr).add (k * 9) = ⟨g, k * 9, none⟩ := by
            unfold Addr.add
            by_cases hz : k * 9 = 0
            · rw [if_pos hz, hz]
            · rw [if_neg hz]; simp
          obtain ⟨x0, hx0⟩ : ∃ x0, wr.cell? ⟨g, k * 9, none⟩ = some x0 := ⟨_, by rw [← e9]; exact hcell (k * 9) _ (List.getElem?_eq_getElem (by omega))⟩
          have hst := hrd.set_ (k * 9) (.int .i64 ((k : Int) + 1)) (by omega) hpos
          rw [e9, numO_step os k (by have := HOL.out; omega)] at hst
          have HST := Lib.hid hst
          have HKB := Lib.hid hbk
          have HOV := Lib.hid hov
          have HB2 := Lib.hid hb
          clear hst hbk hov hb hrd hxl hcell e9
          go_wp2_with fail
          go_roundw
          case rel =>
            refine ⟨k + 1, cu.setIfInBounds (k * 9) (.int .i64 ((k : Int) + 1)), by omega, by go_num, HKB.out.set_ _ _, ?_, ?_, HB2.out.setCell (p := ⟨g, _, none⟩) hge _⟩
            · have e : (wr.setCell ⟨g, k * 9, none⟩ (.int .i64 ((k : Int) + 1))).heap.size = wr.heap.size := by simp
              rw [e]
              exact HST.out
            · exact HOV.out.kept ((Kept.refl _ _).set_ ⟨g, k * 9, none⟩ (.inl fun h => h.2 rfl) _)
          case measure => simp [intOf]; omega
        · obtain rfl : k = 80 := by omega
          have HRD2 := Lib.hid hrd
          have HOV := Lib.hid hov
          have HB2 := Lib.hid hb
          clear hbk hov hb hrd
          go_wp2
          go_ret
          have hr := HRD2.out
          rw [List.take_of_length_le (by rw [numO_len]; have := HOL.out; omega), List.drop_of_length_le (by have := HOL.out; omega), List.append_nil] at hr
          exact ⟨_, 80, c', rfl, ⟨numO 0 os, Rs.of hr fun _ ad e => by injection e with e; subst e; exact hge, (HOV.out.mono fun b _ h => h.1).numb 0, hc1, HCM.out⟩, by omega, HB2.out⟩
  · have e1 : n1 = n := by have := HM.out; omega
    subst e1
    have t80 : decide ((80 : Int) < (n1 : Nat)) = false := decide_eq_false (by omega)
    go_enter Try.func31, Try.ntmps31
    go_wp2_with fail
    refine (ownOps_row (some ad) n1 cap (cs.take 80) w HT.out (by omega) HO.out).mono ?_
    rintro e w1 ⟨v, os, rfl, hown, hov, hb⟩
    have hol : os.length = n1 := by have := hown.1; rw [opsV_len] at this; omega
    have HB := Lib.hid hb
    have HV := Lib.hid hov
    have HOL := Lib.hid hol
    rcases Nat.eq_zero_or_pos n1 with h0 | hpos
    · obtain ⟨A', c', rfl, hc1, hcm, hrd⟩ := own_slice hown
      have e0 : os = [] := List.eq_nil_of_length_eq_zero (by omega)
      have HR := Lib.hid (⟨os, Rs.of hrd fun _ ad e => (hown.lt ad.block (by rw [e]; rfl)).1, hov.mono fun b _ h => h.1, hc1, hcm⟩ : OpsIs w1 (From w.heap.size) A' n1 c' (cs.take 80))
      have hz := HT.out.len
      have e1 : cs.take 80 = [] := List.eq_nil_of_length_eq_zero (by omega)
      have E1 := Lib.hid e1
      clear hown hov hb hol hrd e0 hcm e1 hz
      go_wp2_with fail
      go_loopw [13] (fun i wr => i = .int .i64 0 ∧ wr = w1) (fun _ _ => 0)
      case atStart => exact ⟨rfl, rfl⟩
      case round =>
        obtain ⟨rfl, rfl⟩ := hrel
        have d0 : decide ((0 : Int) < (n1 : Nat)) = false := decide_eq_false (by omega)
        go_wp2
        go_ret
        refine ⟨A', 0, c', rfl, ?_, by omega, HB.out⟩
        have hr := HR.out
        rw [show n1 = 0 from h0] at hr
        unfold numbC
        rw [E1.out] at hr ⊢
        exact hr
    · obtain ⟨g, c', cur, rfl, hc1, hcm, hge, hbk, hrd⟩ := HLP.out v os w1 hown hpos
      have HBK := Lib.hid hbk
      have HRD := Lib.hid hrd
      have HCM := Lib.hid hcm
      clear hown hov hb hol hbk hrd hcm
      go_wp2_with fail
      go_loopw [13] (fun i wr => ∃ (k : Nat) (cu : Array Value), k ≤ n1 ∧ i = .int .i64 k ∧ Blk wr g 45 cu ∧ Reads wr wr.heap.size 9 (some ⟨g, 0, none⟩) n1 (opsV ((numO 0 os).take k ++ os.drop k)) ∧ OpsV wr (Off w.heap.size (some g)) os (cs.take 80) ∧ Below w.heap.size w wr) (fun i _ => n1 - (intOf i).toNat)
      case atStart => exact ⟨0, cur, by omega, rfl, HBK.out, by simpa using HRD.out, HV.out, HB.out⟩
      case round =>
        obtain ⟨k, cu, hk, rfl, hbk, hrd, hov, hb⟩ := hrel
        rcases Nat.lt_or_ge k n1 with hk1 | hk1
        · have f0 := hbk.frozen (k * 9)
          have hxl : (opsV ((numO 0 os).take k ++ os.drop k)).length = n1 * 9 := hrd.1
          obtain ⟨ad2, ea, _, hcell⟩ := hrd.2 hpos
          injection ea with ea
          subst ea
          have e9 : (⟨g, 0, none⟩ : Addr).add (k * 9) = ⟨g, k * 9, none⟩ := by
            unfold Addr.add
            by_cases hz : k * 9 = 0
            · rw [if_pos hz, hz]
            · rw [if_neg hz]; simp
          obtain ⟨x0, hx0⟩ : ∃ x0, wr.cell? ⟨g, k * 9, none⟩ = some x0 := ⟨_, by rw [← e9]; exact hcell (k * 9) _ (List.getElem?_eq_getElem (by omega))⟩
          have hst := hrd.set_ (k * 9) (.int .i64 ((k : Int) + 1)) (by omega) hpos
          rw [e9, numO_step os k (by have := HOL.out; omega)] at hst
          have HST := Lib.hid hst
          have HKB := Lib.hid hbk
          have HOV := Lib.hid hov
          have HB2 := Lib.hid hb
          clear hst hbk hov hb hrd hxl hcell e9
          go_wp2_with fail
          go_roundw
          case rel =>
            refine ⟨k + 1, cu.setIfInBounds (k * 9) (.int .i64 ((k : Int) + 1)), by omega, by go_num, HKB.out.set_ _ _, ?_, ?_, HB2.out.setCell (p := ⟨g, _, none⟩) hge _⟩
            · have e : (wr.setCell ⟨g, k * 9, none⟩ (.int .i64 ((k : Int) + 1))).heap.size = wr.heap.size := by simp
              rw [e]
              exact HST.out
            · exact HOV.out.kept ((Kept.refl _ _).set_ ⟨g, k * 9, none⟩ (.inl fun h => h.2 rfl) _)
          case measure => simp [intOf]; omega
        · obtain rfl : n1 = k := by omega
          have HRD2 := Lib.hid hrd
          have HOV := Lib.hid hov
          have HB2 := Lib.hid hb
          clear hbk hov hb hrd
          go_wp2
          go_ret
          have hr := HRD2.out
          rw [List.take_of_length_le (by rw [numO_len]; have := HOL.out; omega), List.drop_of_length_le (by have := HOL.out; omega), List.append_nil] at hr
          exact ⟨_, n1, c', rfl, ⟨numO 0 os, Rs.of hr fun _ ad e => by injection e with e; subst e; exact hge, (HOV.out.mono fun b _ h => h.1).numb 0, hc1, HCM.out⟩, by omega, HB2.out⟩
end Go.Proofs.Ytaipgdhdfpemcaa
