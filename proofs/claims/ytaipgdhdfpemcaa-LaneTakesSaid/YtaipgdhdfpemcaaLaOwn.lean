/-
  THE WALKS OF THE LANE: the references' copies of operations and of mails.
-/
import Derived.Test.YtaipgdhdfpemcaaLaBig
import Derived.Test.YtaipgdhdfpemcaaPut
namespace Go.Proofs.Ytaipgdhdfpemcaa
open Go.RowKit

theorem Try.infoStr : (Try.prog.info? 9).map (fun i => (i.zero, i.size, i.bytes)) = some (some (.string ⟨#[]⟩), 1, 16) := by kernel_rfl
theorem Try.infoEnt : (Try.prog.info? 150).map (fun i => (i.zero, i.size, i.bytes)) = some (some (.agg #[.int .i64 0, .string ⟨#[]⟩]), 2, 24) := by kernel_rfl
theorem grown_set (w : World) (p : Addr) (u : Value) : w.grownBy (w.setCell p u) (some p.block) :=
  ⟨rfl, rfl, rfl, by simp, fun k _ hne => Below.heap_setCell w p u k (fun e => hne (by rw [e]))⟩
/-- blocks from one on, but for a row that grows -/
def Off (lo : Nat) (row : Option Nat) : Nat → Prop := fun b => lo ≤ b ∧ some b ≠ row
/-- a round of the copying -/
theorem own_round {W wr w2 w5 : World} {tO : TypeId} {v v2 : Value} {k : Nat} {os : List Opd} {cs : List OpC} {c : OpC} {n : Nat}
    (hb : Below W.heap.size W wr) (hov : OpsV wr (Off W.heap.size v.ownBlock) os cs) (hown : wr.ownsRow W.heap.size tO 9 v k (opsV os))
    (box e : Obj) (hg1 : ((wr.alloc box).alloc e).grownBy w2 (some (wr.heap.size + 1)))
    (g1 c1 : Nat) (hge : wr.heap.size + 1 ≤ g1) (hrd : Reads w2 w2.heap.size 1 (some ⟨g1, 0, none⟩) n (strV c.hs)) (hc : n ≤ c1 ∧ c1 ≤ maxLen)
    (u : Value) (i : Nat) (x : Obj) (hg2 : ((w2.setCell ⟨wr.heap.size, i, none⟩ u).alloc x).grownBy w5 v.ownBlock)
    (hat : v2.ownBlock = v.ownBlock ∨ v2.ownBlock = some (w2.heap.size + 1)) :
    OpsV w5 (Off W.heap.size v2.ownBlock) (os ++ [c.at_ (some ⟨g1, 0, none⟩) n c1]) (cs ++ [c]) ∧ Below W.heap.size W w5 := by
  have s0 := hb.size
  have s1 : wr.heap.size + 2 ≤ w2.heap.size := by have := hg1.size; simpa using this
  have s2 : w2.heap.size + 1 ≤ w5.heap.size := by have := hg2.size; simpa using this
  have hk : Kept (Off W.heap.size v.ownBlock) wr w5 :=
    ((((((Kept.refl _ wr).alloc box).alloc e).grown hg1 (by intro k hk; injection hk with hk; exact .inr (by omega))).set_ ⟨wr.heap.size, i, none⟩ (.inr (Nat.le_refl _)) u).alloc x).grown hg2 (by intro k hk; exact .inl fun h => h.2 hk.symm)
  have h1 : OpsV w5 (Off W.heap.size v2.ownBlock) os cs := by
    have h2 : OpsV wr (fun b => Off W.heap.size v.ownBlock b ∧ Off W.heap.size v2.ownBlock b) os cs := hov.mono fun b hb1 hb2 => ⟨hb2, hb2.1, by
      rcases hat with h | h
      · rw [h]; exact hb2.2
      · rw [h]; intro e; injection e; omega⟩
    exact (h2.kept (hk.mono fun b _ h => h.1)).mono fun b _ h => h.2
  have hnew : Rs w5 (Off W.heap.size v2.ownBlock) 1 (some ⟨g1, 0, none⟩) n (strV c.hs) := by
    refine ⟨hrd.1, fun hn => ?_⟩
    obtain ⟨ad, hA, hlt, hcell⟩ := hrd.2 hn
    injection hA with hA
    subst hA
    simp only at hlt
    have hne : some g1 ≠ v.ownBlock := fun e => by have := (hown.lt g1 e.symm).2; omega
    refine ⟨_, rfl, ⟨by show W.heap.size ≤ g1; omega, ?_⟩, by show g1 < _; omega, fun j y hy => ?_⟩
    · rcases hat with h | h
      · rw [h]; exact hne
      · rw [h]; intro e; injection e with e; simp only at e; omega
    · have hbl : ((⟨g1, 0, none⟩ : Addr).add j).block = g1 := block_of_add _ _
      rw [World.cell?_of_block (w := w2) (w' := w5) (by
        rw [hbl, hg2.block g1 (by simp; omega) hne, Below.heap_alloc _ _ g1 (by simp; omega), Below.heap_setCell _ _ _ g1 (by simp; omega)])]
      exact hcell j y hy
  refine ⟨h1.snoc ⟨_, _, _, rfl, hnew, hc⟩, ?_⟩
  have h1 : Below W.heap.size W w2 := ((hb.alloc hb.size _).alloc (by simp; omega) _).grown hg1 (by simp; omega) (by intro k hk; injection hk with hk; omega)
  exact ((h1.setCell (p := ⟨wr.heap.size, i, none⟩) hb.size u).alloc (by have := h1.size; simpa using this) x).grown hg2 (by have := h1.size; simp; omega) (by intro k hk; exact (hown.lt k hk).1)
theorem Blk.reads {w : World} {g size n : Nat} {t : TypeId} {cs : Array Value} (h : Blk w g t cs) (hs : cs.size = n * size) : Reads w w.heap.size size (some ⟨g, 0, none⟩) n cs.toList := by
  refine ⟨by simpa using hs, fun _ => ⟨_, rfl, h.lt, fun j u hu => ?_⟩⟩
  have e : (⟨g, 0, none⟩ : Addr).add j = ⟨g, j, none⟩ := by
    unfold Addr.add
    by_cases h : j = 0
    · rw [if_pos h, h]
    · rw [if_neg h]; simp
  rw [e, h.cell j, ← hu]
  simp

set_option maxRecDepth 100000 in
set_option maxHeartbeats 4000000 in
/-- the reference's copy of operations -/
theorem ownOps_any (A : Option Addr) (n cap : Nat) (cs : List OpC) (w : World) {S : Nat → Prop} (h : OpsIs w S A n cap cs) (hn : n ≤ 4294967296) (hok : ∀ c ∈ cs, c.Ok) :
    Calls Try.prog 34 #[.slice A n cap] w fun e w' => ∃ A' cap', e = .returned (.slice A' n cap') ∧ OpsIs w' (From w.heap.size) A' n cap' cs ∧ Below w.heap.size w w' := by
  have hlen := h.len
  have HR := Lib.hid h
  have HL := Lib.hid hlen
  have HO := Lib.hid hok
  clear h hlen hok
  obtain ⟨i0, hi0, hz0, hz1, hz2⟩ := info_parts Try.infoOp
  have HI := Lib.hid hi0
  have HZ0 := Lib.hid hz0
  have HZ1 := Lib.hid hz1
  have HZ2 := Lib.hid hz2
  obtain ⟨j0, hj0, hy0, hy1, hy2⟩ := info_parts Try.infoStr
  have HJ := Lib.hid hj0
  have HY0 := Lib.hid hy0
  have HY1 := Lib.hid hy1
  have HY2 := Lib.hid hy2
  clear hi0 hz0 hz1 hz2 hj0 hy0 hy1 hy2
  go_enter Try.func34, Try.ntmps34
  go_wp2_with fail
  go_loopw [3, 4] (fun v i wr => ∃ (k : Nat) (os : List Opd), k ≤ n ∧ i = .int .i64 k ∧ wr.ownsRow w.heap.size 45 9 v k (opsV os) ∧ OpsV wr (Off w.heap.size v.ownBlock) os (cs.take k) ∧ Below w.heap.size w wr) (fun _ i _ => n - (intOf i).toNat)
  case atStart => exact ⟨0, [], by omega, rfl, World.ownsRow_nil _ _ _ _, by simp [OpsV], Below.refl _ _⟩
  case round =>
    obtain ⟨k, os, hk, rfl, hown, hov, hb⟩ := hrel
    have HB := Lib.hid hb
    have HV := Lib.hid hov
    have HW := Lib.hid hown
    clear hb hov hown
    rcases Nat.lt_or_ge k n with hk1 | hk1
    · obtain ⟨ad, c, hA, hn', hc, rfl, hab, hck, hop, hss⟩ := (HR.out.below HB.out).at_ hk1
      have hl := hss.len
      have ho := HO.out c (List.mem_of_getElem? hck)
      have hz2 : hn' * 16 ≤ 140737488351232 := by have := ho.hs; omega
      have htk : cs.take (k + 1) = cs.take k ++ [c] := by rw [List.take_add_one, hck]; rfl
      have HTK := Lib.hid htk
      obtain ⟨k0, k1, k2, k3, k4, k5, k6, k7, k8⟩ := hop
      simp only [OpC.at_] at k0 k1 k2 k3 k4 k5 k6 k7 k8
      obtain ⟨x1, x2, x3, x4, x5, x6, x7, x8, x9⟩ := c
      simp only at k0 k1 k2 k3 k4 k5 k6 k7 k8 hss
      have HS := Lib.hid hss
      clear hck hss hl ho htk
      have hbx : Blk (wr.alloc (.cells #[.int .i64 x1, .int .i64 x2, .int .i64 x3, .int .i64 x4, .int .i64 x5, .int .i64 x6, .string x7, .int .i64 x8, .slice hA hn' hc] 45)) wr.heap.size 45 #[.int .i64 x1, .int .i64 x2, .int .i64 x3, .int .i64 x4, .int .i64 x5, .int .i64 x6, .string x7, .int .i64 x8, .slice hA hn' hc] := Blk.new _ _ _
      have HBX := Lib.hid hbx
      have hb0 : Below wr.heap.size wr (wr.alloc (.cells #[.int .i64 x1, .int .i64 x2, .int .i64 x3, .int .i64 x4, .int .i64 x5, .int .i64 x6, .string x7, .int .i64 x8, .slice hA hn' hc] 45)) := (Below.refl _ _).alloc (Nat.le_refl _) _
      have HB0 := Lib.hid hb0
      clear hbx hb0
      obtain ⟨W1, hW1⟩ : ∃ W1, W1 = wr.alloc (.cells #[.int .i64 x1, .int .i64 x2, .int .i64 x3, .int .i64 x4, .int .i64 x5, .int .i64 x6, .string x7, .int .i64 x8, .slice hA hn' hc] 45) := ⟨_, rfl⟩
      have hsz : W1.heap.size = wr.heap.size + 1 := by rw [hW1]; simp
      have hem := own_empty (wr.alloc (.cells #[.int .i64 x1, .int .i64 x2, .int .i64 x3, .int .i64 x4, .int .i64 x5, .int .i64 x6, .string x7, .int .i64 x8, .slice hA hn' hc] 45)) 9 1
      have es : (wr.alloc (.cells #[.int .i64 x1, .int .i64 x2, .int .i64 x3, .int .i64 x4, .int .i64 x5, .int .i64 x6, .string x7, .int .i64 x8, .slice hA hn' hc] 45)).heap.size = wr.heap.size + 1 := by simp
      rw [es] at hem
      have HEM := Lib.hid hem
      clear hem es hW1 hsz W1
      go_wp2_with (at_builtin; refine wpList_append_any _ rfl (.tmp 16) (.tmp 19) _ rfl (wr.heap.size + 1) 9 j0 _ 1 16 Try.underlying24 HJ.out HY0.out HY1.out HY2.out rfl (by omega) (.slice (some ⟨wr.heap.size + 1, 0, none⟩) 0 0) 0 [] rfl HEM.out wr.heap.size hA hn' hc (strV x9) rfl (((HS.out.1.reads.below HB0.out)).alloc (by simp) _) (strV_one x9) ?c1 ?c2 ?c3 ?_)
      case c1 => unfold maxLen; omega
      case c2 => omega
      case c3 => simp
      intro v1 w2 hown1 hg1 hat1
      try simp only [Nat.zero_add, List.nil_append] at hown1
      obtain ⟨g1, c1, cur1, rfl, hc1, hcm1, hge1, _, hrd1⟩ := own_blk hown1 hat1
      have hbk2 := (HBX.out.alloc (.cells #[] 9)).grown hg1 (by simp [Value.ownBlock])
      have d0 := hbk2.cell 0
      have d1 := hbk2.cell 1
      have d2 := hbk2.cell 2
      have d3 := hbk2.cell 3
      have d4 := hbk2.cell 4
      have d5 := hbk2.cell 5
      have d6 := hbk2.cell 6
      have d7 := hbk2.cell 7
      have d8 := hbk2.cell 8
      have f8 := hbk2.frozen 8
      simp at d0 d1 d2 d3 d4 d5 d6 d7 d8
      have HG1 := Lib.hid hg1
      have HRD1 := Lib.hid hrd1
      have hs2 : wr.heap.size + 2 ≤ w2.heap.size := by have := hg1.size; simpa using this
      have hown2 : w2.ownsRow w.heap.size 45 9 u3 k (opsV os) := ((HW.out.alloc _).alloc _).kept hg1 (by
        rcases hv : u3.ownBlock with _ | b
        · exact .inl rfl
        · refine .inr fun e => ?_
          have := (HW.out.lt b hv).2
          simp [Value.ownBlock] at e
          omega)
      have hown3 := hown2.kept (grown_set w2 ⟨wr.heap.size, 8, none⟩ (.slice (some ⟨g1, 0, none⟩) hn' c1)) (by
        rcases hv : u3.ownBlock with _ | b
        · exact .inl rfl
        · refine .inr fun e => ?_
          have := (HW.out.lt b hv).2
          simp at e
          omega)
      have HW3 := Lib.hid hown3
      have hnb : Blk ((w2.setCell ⟨wr.heap.size, 8, none⟩ (.slice (some ⟨g1, 0, none⟩) hn' c1)).alloc (.cells #[.int .i64 x1, .int .i64 x2, .int .i64 x3, .int .i64 x4, .int .i64 x5, .int .i64 x6, .string x7, .int .i64 x8, .slice (some ⟨g1, 0, none⟩) hn' c1] 45)) w2.heap.size 45 #[.int .i64 x1, .int .i64 x2, .int .i64 x3, .int .i64 x4, .int .i64 x5, .int .i64 x6, .string x7, .int .i64 x8, .slice (some ⟨g1, 0, none⟩) hn' c1] := by
        have := Blk.new (w2.setCell ⟨wr.heap.size, 8, none⟩ (.slice (some ⟨g1, 0, none⟩) hn' c1)) 45 #[.int .i64 x1, .int .i64 x2, .int .i64 x3, .int .i64 x4, .int .i64 x5, .int .i64 x6, .string x7, .int .i64 x8, .slice (some ⟨g1, 0, none⟩) hn' c1]
        rwa [setCell_size] at this
      have HNB := Lib.hid hnb
      clear hown1 hg1 hat1 hrd1 hbk2 hown2 hown3 hnb
      go_wp2_with (at_builtin; refine wpList_append_any _ rfl (.tmp 23) (.tmp 25) _ rfl w.heap.size 45 i0 _ 9 96 Try.underlying28 HI.out HZ0.out HZ1.out HZ2.out rfl (by omega) u3 k (opsV os) rfl (HW3.out.alloc _) _ (some ⟨w2.heap.size, 0, none⟩) 1 1 (opsV [OpC.at_ ⟨x1, x2, x3, x4, x5, x6, x7, x8, x9⟩ (some ⟨g1, 0, none⟩) hn' c1]) rfl (HNB.out.reads (n := 1) (size := 9) rfl) (opsV_one _) ?d1 ?d2 ?d3 ?_)
      case d1 => unfold maxLen; omega
      case d2 => omega
      case d3 => have := HB.out.size; simp; omega
      intro v2 w5 hown5 hg5 hat5
      have hat6 : v2.ownBlock = u3.ownBlock ∨ v2.ownBlock = some (w2.heap.size + 1) := by simpa using hat5
      obtain ⟨e1, e3⟩ := own_round (c := ⟨x1, x2, x3, x4, x5, x6, x7, x8, x9⟩) HB.out HV.out HW.out _ _ HG1.out g1 c1 hge1 HRD1.out ⟨hc1, hcm1⟩ _ _ _ hg5 hat6
      have E1 := Lib.hid e1
      have E3 := Lib.hid e3
      have E4 := Lib.hid hown5
      clear e1 e3 hown5 hg5 hat5 hat6
      go_wp2
      go_roundw
      case rel => exact ⟨k + 1, os ++ [OpC.at_ ⟨x1, x2, x3, x4, x5, x6, x7, x8, x9⟩ (some ⟨g1, 0, none⟩) hn' c1], by omega, by go_num, by rw [opsV_append]; exact E4.out, by rw [HTK.out]; exact E1.out, E3.out⟩
      case measure => simp [intOf]; omega
    · obtain rfl : n = k := by omega
      obtain ⟨A', c', rfl, hc1, hcm, hrd⟩ := own_slice HW.out
      have hrs : Rs wr (From w.heap.size) 9 A' n (opsV os) := Rs.of hrd fun _ ad e => (HW.out.lt ad.block (by rw [e]; rfl)).1
      have HC := Lib.hid hcm
      have HRD := Lib.hid hrs
      have hv := HV.out
      rw [List.take_of_length_le (by rw [HL.out]; exact Nat.le_refl _)] at hv
      have HV2 := Lib.hid hv
      clear hcm hrd hrs hv
      go_wp2
      go_ret
      exact ⟨A', c', rfl, ⟨os, HRD.out, HV2.out.mono fun b _ h => h.1, hc1, HC.out⟩, HB.out⟩
end Go.Proofs.Ytaipgdhdfpemcaa
