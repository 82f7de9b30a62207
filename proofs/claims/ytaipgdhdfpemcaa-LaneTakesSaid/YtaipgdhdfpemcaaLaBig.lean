/-
  THE WALKS OF THE LANE: whether operations, or a mail, are more than is played.
-/
import Derived.Test.YtaipgdhdfpemcaaLaDat
namespace Go.Proofs.Ytaipgdhdfpemcaa
open Go.RowKit

/-- how much an operation is -/
def OpC.big (c : OpC) : Nat := 4 + min c.name.size 1048576 + c.hs.length
def bigOf (cs : List OpC) : Nat := (cs.map OpC.big).sum
theorem bigOf_take (cs : List OpC) (k : Nat) (c : OpC) (h : cs[k]? = some c) : bigOf (cs.take (k + 1)) = bigOf (cs.take k) + c.big := by
  unfold bigOf
  rw [List.take_add_one, h]
  simp
theorem bigOf_le (cs : List OpC) (k : Nat) : bigOf (cs.take k) ≤ bigOf cs := by
  have e : cs = cs.take k ++ cs.drop k := (List.take_append_drop k cs).symm
  have : bigOf cs = bigOf (cs.take k) + bigOf (cs.drop k) := by
    conv => lhs; rw [e]
    unfold bigOf
    rw [List.map_append, List.sum_append]
  omega
theorem bigOf_mem {cs : List OpC} {c : OpC} (h : c ∈ cs) : c.big ≤ bigOf cs := by
  induction cs with
  | nil => cases h
  | cons a l ih =>
    have e : bigOf (a :: l) = a.big + bigOf l := by simp [bigOf]
    rcases List.mem_cons.1 h with rfl | h
    · omega
    · have := ih h; omega
theorem bigOf_len (cs : List OpC) : cs.length * 4 ≤ bigOf cs := by
  induction cs with
  | nil => exact Nat.zero_le _
  | cons a l ih =>
    have e : bigOf (a :: l) = a.big + bigOf l := by simp [bigOf]
    have : 4 ≤ a.big := by unfold OpC.big; omega
    rw [List.length_cons]
    omega

set_option maxRecDepth 100000 in
set_option maxHeartbeats 2000000 in
theorem great_any (A : Option Addr) (n cap : Nat) (cs : List OpC) (w : World) {S : Nat → Prop} (h : OpsIs w S A n cap cs) (hn : n * 96 ≤ 140737488351232) (hok : ∀ c ∈ cs, c.Ok) :
    Calls Try.prog 12 #[.slice A n cap] w fun e w' => e = .returned (.bool (decide (4096 < bigOf cs))) ∧ Below w.heap.size w w' := by
  have hlen := h.len
  have HR := Lib.hid h
  have HL := Lib.hid hlen
  have HO := Lib.hid hok
  clear h hlen hok
  go_enter Try.func12, Try.ntmps12
  go_wp2_with fail
  go_loopw [3, 8] (fun s i wr => ∃ k : Nat, k ≤ n ∧ i = .int .i64 k ∧ s = .int .i64 (bigOf (cs.take k) : Nat) ∧ bigOf (cs.take k) ≤ 4096 ∧ Below w.heap.size w wr) (fun _ i _ => n - (intOf i).toNat)
  case atStart => exact ⟨0, by omega, rfl, by simp [bigOf], by simp [bigOf], Below.refl _ _⟩
  case round =>
    obtain ⟨k, hk, rfl, rfl, hle, hb⟩ := hrel
    have HB := Lib.hid hb
    clear hb
    obtain ⟨S, hS⟩ : ∃ S, S = bigOf (cs.take k) := ⟨_, rfl⟩
    rw [← hS] at hle ⊢
    have HS := Lib.hid hS
    clear hS
    rcases Nat.lt_or_ge k n with hk1 | hk1
    · obtain ⟨ad, c, hA, hn', hc, rfl, hab, hck, hop, hss⟩ := (HR.out.below HB.out).at_ hk1
      have hl := hss.len
      have ho := HO.out c (List.mem_of_getElem? hck)
      have hz1 := ho.name
      have hz2 : hn' * 16 ≤ 140737488351232 := by have := ho.hs; omega
      have hbig : c.big = 4 + min c.name.size 1048576 + hn' := by unfold OpC.big; omega
      have htk := bigOf_take cs k c hck
      rw [← HS.out, hbig] at htk
      have HTK := Lib.hid htk
      have hpos : bigOf (cs.take (k + 1)) ≤ bigOf cs := bigOf_le cs (k + 1)
      have HP := Lib.hid hpos
      obtain ⟨k0, k1, k2, k3, k4, k5, k6, k7, k8⟩ := hop
      simp only [OpC.at_] at k0 k1 k2 k3 k4 k5 k6 k7 k8
      obtain ⟨x1, x2, x3, x4, x5, x6, x7, x8, x9⟩ := c
      simp only at *
      clear hck hss hl ho hbig htk hpos
      obtain ⟨G, hG⟩ : ∃ G, G = bigOf (cs.take (k + 1)) := ⟨_, rfl⟩
      rw [← hG] at HTK HP
      have HG := Lib.hid hG
      clear hG
      by_cases hm : 1048576 < x7.size
      · have hg : G = S + (1048580 + hn') := by have := HTK.out; omega
        have HGS := Lib.hid hg
        clear hg
        go_wp2
        all_goals first
          | (go_ret; exact ⟨ret_bool' (decide_eq_true (by have := HP.out; have := HGS.out; omega)).symm, HB.out.alloc HB.out.size _⟩)
          | (go_roundw
             case rel => exact ⟨k + 1, by omega, by go_num, by rw [← HG.out, HGS.out]; go_num, by have := HGS.out; rw [← HG.out]; omega, HB.out.alloc HB.out.size _⟩
             case measure => simp [intOf]; omega)
      · have hg : G = S + (4 + x7.size + hn') := by have := HTK.out; omega
        have HGS := Lib.hid hg
        clear hg
        go_wp2
        all_goals first
          | (go_ret; exact ⟨ret_bool' (decide_eq_true (by have := HP.out; have := HGS.out; omega)).symm, HB.out.alloc HB.out.size _⟩)
          | (go_roundw
             case rel => exact ⟨k + 1, by omega, by go_num, by rw [← HG.out, HGS.out]; go_num, by have := HGS.out; rw [← HG.out]; omega, HB.out.alloc HB.out.size _⟩
             case measure => simp [intOf]; omega)
    · obtain rfl : n = k := by omega
      have e : bigOf cs = S := by rw [HS.out, List.take_of_length_le (by rw [HL.out]; exact Nat.le_refl _)]
      have HE := Lib.hid e
      clear e
      go_wp2
      go_ret
      exact ⟨ret_bool' (by rw [HE.out]; simp; omega), HB.out⟩

/-- is a mail more than is played? -/
def MailC.heavy (m : MailC) : Bool := decide (100 < m.ents.length + m.hs.length + m.ops.length) || decide (4096 < bigOf m.ops) || decide (1000 < m.data.size)

set_option maxRecDepth 100000 in
set_option maxHeartbeats 2000000 in
theorem heavy_any (cells : Array Value) (m : MailC) (w : World) {S : Nat → Prop} (h : MailIs w S cells m) (hok : m.Ok) :
    Calls Try.prog 11 #[.agg cells] w fun e w' => e = .returned (.bool m.heavy) ∧ Below w.heap.size w w' := by
  obtain ⟨eA, en, ec, hA, hn, hc, oA, on, oc, pA, pn, pc, rfl, h1, h2, h3, h4⟩ := h
  have l1 := h1.len
  have l2 := h2.len
  have l4 := h4.len
  have hh : m.heavy = (decide (100 < en + hn + pn) || decide (4096 < bigOf m.ops) || decide (1000 < m.data.size)) := by unfold MailC.heavy; rw [l1, l2, l4]
  have z1 : en * 24 ≤ 140737488351232 := by rw [← l1]; exact hok.ents
  have z2 : hn * 16 ≤ 140737488351232 := by rw [← l2]; exact hok.hs
  have z4 : pn * 96 ≤ 140737488351232 := by rw [← l4]; exact hok.ops
  have z3 := hok.data
  have hgr := fun W (hb : Below w.heap.size w W) => great_any pA pn pc m.ops W (h4.below hb) z4 hok.op
  have HG := Lib.hid hgr
  have hb0 : Below w.heap.size w (w.alloc (.cells (mailC m.kind m.term m.index m.prev m.commit m.good eA en ec m.data hA hn hc m.epoch m.site m.atN m.atE m.whN m.whE oA on oc pA pn pc) 30)) := (Below.refl _ _).alloc (Nat.le_refl _) _
  have HB0 := Lib.hid hb0
  have hbk := Blk.new w 30 (mailC m.kind m.term m.index m.prev m.commit m.good eA en ec m.data hA hn hc m.epoch m.site m.atN m.atE m.whN m.whE oA on oc pA pn pc)
  have HBK := Lib.hid hbk
  rw [hh]
  clear h1 h2 h3 h4 l1 l2 l4 hok hgr hb0 hh hbk
  by_cases hbig : 100 < en + hn + pn
  · have d1 : decide (100 < en + hn + pn) = true := decide_eq_true hbig
    rw [d1]
    clear d1
    go_enter Try.func11, Try.ntmps11
    have d2 : decide ((100 : Int) < (en : Int) + (hn : Int) + (pn : Int)) = true := decide_eq_true (by omega)
    go_wp2
    go_ret
    exact ⟨ret_bool' (by simp), HB0.out⟩
  · have d1 : decide (100 < en + hn + pn) = false := decide_eq_false hbig
    rw [d1]
    clear d1
    obtain ⟨b, hb⟩ : ∃ b, b = decide (4096 < bigOf m.ops) := ⟨_, rfl⟩
    rw [← hb]
    have HG2 := HG.out
    rw [← hb] at HG2
    have HG3 := Lib.hid HG2
    clear HG HG2 hb
    cases b with
    | true =>
      go_enter Try.func11, Try.ntmps11
      have d2 : decide ((100 : Int) < (en : Int) + (hn : Int) + (pn : Int)) = false := decide_eq_false (by omega)
      go_wp2_with fail
      refine (HG3.out _ HB0.out).mono ?_
      rintro e w1 ⟨rfl, hb1⟩
      have HB1 := Lib.hid (HB0.out.trans (hb1.mono HB0.out.size))
      clear hb1
      go_wp2
      go_ret
      exact ⟨rfl, HB1.out⟩
    | false =>
      by_cases hd : 1000 < m.data.size
      · have d3 : decide (1000 < m.data.size) = true := decide_eq_true hd
        rw [d3]
        clear d3
        go_enter Try.func11, Try.ntmps11
        have d2 : decide ((100 : Int) < (en : Int) + (hn : Int) + (pn : Int)) = false := decide_eq_false (by omega)
        have d4 : decide ((1000 : Int) < (m.data.size : Int)) = true := decide_eq_true (by omega)
        go_wp2_with fail
        refine (HG3.out _ HB0.out).mono ?_
        rintro e w1 ⟨rfl, hb1⟩
        have hk := HBK.out.below hb1 HBK.out.lt
        have c7 := hk.cell 7
        simp at c7
        have HB1 := Lib.hid (HB0.out.trans (hb1.mono HB0.out.size))
        clear hb1 hk
        go_wp2
        go_ret
        exact ⟨rfl, HB1.out⟩
      · have d3 : decide (1000 < m.data.size) = false := decide_eq_false hd
        rw [d3]
        clear d3
        go_enter Try.func11, Try.ntmps11
        have d2 : decide ((100 : Int) < (en : Int) + (hn : Int) + (pn : Int)) = false := decide_eq_false (by omega)
        have d4 : decide ((1000 : Int) < (m.data.size : Int)) = false := decide_eq_false (by omega)
        go_wp2_with fail
        refine (HG3.out _ HB0.out).mono ?_
        rintro e w1 ⟨rfl, hb1⟩
        have hk := HBK.out.below hb1 HBK.out.lt
        have c7 := hk.cell 7
        simp at c7
        have HB1 := Lib.hid (HB0.out.trans (hb1.mono HB0.out.size))
        clear hb1 hk
        go_wp2
        go_ret
        exact ⟨rfl, HB1.out⟩
end Go.Proofs.Ytaipgdhdfpemcaa
