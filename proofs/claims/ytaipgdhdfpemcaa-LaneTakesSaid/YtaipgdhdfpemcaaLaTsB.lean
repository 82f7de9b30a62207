/-
  THE WALKS OF THE LANE: operations copied, in general.
-/
import Derived.Test.YtaipgdhdfpemcaaLaMsgs
import Derived.Test.YtaipgdhdfpemcaaLaGen
import Derived.Test.YtaipgdhdfpemcaaLaTk3
import Derived.Test.YtaipgdhdfpemcaaLaNils
import Derived.Test.YtaipgdhdfpemcaaLaRt
import Derived.ArgAppend
import Derived.Test.YtaipgdhdfpemcaaLaRightB
import Derived.Test.YtaipgdhdfpemcaaLaTk2
import Derived.Test.YtaipgdhdfpemcaaLaAw
namespace Go.Proofs.Ytaipgdhdfpemcaa
open Go.RowKit

set_option maxHeartbeats 1000000 in
/-- texts in new memory -/
theorem cloneStr_any {A : Option Addr} {n c : Nat} {xs : List ByteArray} {S : Nat → Prop} (w : World) (h : StrIs w S A n c xs) (hn : n * 16 ≤ 140737488351232) :
    Calls Try.prog 99 #[.slice A n c] w fun x w' => ∃ A' c', x = .returned (.slice A' n c') ∧ StrIs w' (From w.heap.size) A' n c' xs ∧ Below w.heap.size w w' := by
  rcases A with _ | ad
  · have h0 : n = 0 := by
      rcases Nat.eq_zero_or_pos n with h0 | h0
      · exact h0
      · obtain ⟨_, h, _⟩ := h.1.2 h0
        cases h
    subst h0
    have hl := h.len
    obtain rfl : xs = [] := List.eq_nil_of_length_eq_zero hl
    have q : ∀ (w : World), (binOp .eql 24 (.slice none 0 c) (.slice none 0 0)).run Try.prog w = .ok (.bool true) w := fun w => Lib.run_eql_slice_nil w _ _ none 0 c 0 0 Try.underlying24
    clear h hl
    go_enter Try.func99, Try.ntmps99
    go_wp2
    go_ret
    exact ⟨none, 0, rfl, ⟨Rs.nil_ _ _ _ _, Nat.le_refl _, Nat.zero_le _⟩, Below.refl _ _⟩
  · have HR := Lib.hid h
    clear h
    obtain ⟨i0, hi0, hz0, hz1, hz2⟩ := info_parts Try.infoStr
    have HI := Lib.hid hi0
    have HZ0 := Lib.hid hz0
    have HZ1 := Lib.hid hz1
    have HZ2 := Lib.hid hz2
    clear hi0 hz0 hz1 hz2
    have q : ∀ (w : World), (binOp .eql 24 (.slice (some ad) n c) (.slice none 0 0)).run Try.prog w = .ok (.bool false) w := fun w => Lib.run_eql_slice_nil w _ _ (some ad) n c 0 0 Try.underlying24
    go_enter Try.func99, Try.ntmps99
    go_wp2_with (at_builtin; refine wpList_append_any _ rfl (.tmp 5) (.tmp 6) _ rfl w.heap.size 9 i0 _ 1 16 Try.underlying24 HI.out HZ0.out HZ1.out HZ2.out rfl (by omega) (.slice (some ⟨w.heap.size, 0, none⟩) 0 0) 0 [] rfl (own_empty w _ 1) w.heap.size (some ad) n c (strV xs) rfl (HR.out.1.reads.alloc (Nat.le_refl _) _) (strV_one xs) ?c1 ?c2 ?c3 ?_)
    case c1 => unfold maxLen; omega
    case c2 => omega
    case c3 => simp
    intro v1 w2 hown hg hat
    try simp only [Nat.zero_add, List.nil_append] at hown
    have hb2 : Below w.heap.size w w2 := ((Below.refl _ _).alloc (Nat.le_refl _) _).grown hg (by simp) (by intro k hk; simp [Value.ownBlock] at hk; omega)
    obtain ⟨g1, c1, cur, rfl, hc1, hcm, hg1, hbk, hrd⟩ := own_blk hown hat
    have HB := Lib.hid hb2
    have HD := Lib.hid hrd
    clear hown hg hat hrd hb2 hbk
    go_wp2
    go_ret
    exact ⟨_, _, rfl, ⟨Rs.of HD.out fun _ ad e => by injection e with e; subst e; exact hg1, hc1, hcm⟩, HB.out⟩

/-- an operation, its hashes elsewhere -/
theorem opsV_set (pre post : List Opd) (o : Opd) (A : Option Addr) (n c : Nat) :
    (opsV (pre ++ o :: post)).set (pre.length * 9 + 8) (.slice A n c) = opsV (pre ++ { o with hA := A, hn := n, hc := c } :: post) := by
  have hl : (opsV pre).length = pre.length * 9 := opsV_len pre
  rw [opsV_append, opsV_append, opsV_cons, opsV_cons, List.set_append_right _ _ (by omega), hl, show pre.length * 9 + 8 - pre.length * 9 = 8 by omega]
  congr 1
theorem OpsV.split {w : World} {S : Nat → Prop} {d : Opd} {ds : List Opd} {cs : List OpC} (h : OpsV w S (d :: ds) cs) : ∃ c cs', cs = c :: cs' ∧ OpIs w S d c ∧ OpsV w S ds cs' := by
  cases cs with
  | nil => exact h.elim
  | cons c cs' => exact ⟨c, cs', rfl, h.1, h.2⟩

set_option maxRecDepth 100000 in
set_option maxHeartbeats 4000000 in
/-- operations in new memory, their hashes too -/
theorem copied_some (ad : Addr) (n c : Nat) (cs : List OpC) (w : World) {S : Nat → Prop} (h : OpsIs w S (some ad) n c cs) (hn : n ≤ 4294967296) (hok : ∀ o ∈ cs, o.Ok) :
    Calls Try.prog 62 #[.slice (some ad) n c] w fun x w' => ∃ A' c', x = .returned (.slice A' n c') ∧ OpsIs w' (From w.heap.size) A' n c' cs ∧ Below w.heap.size w w' := by
  have hlen := h.len
  obtain ⟨ds, hrs, hov, _, _⟩ := h
  have hdl := hov.len
  have HR := Lib.hid hrs.reads
  have HO := Lib.hid hok
  have HL := Lib.hid hlen
  have HDL := Lib.hid hdl
  have hov' : OpsV w (fun b => b < w.heap.size) ds cs := hov.mono fun b hb _ => hb
  have HV := Lib.hid hov'
  clear hrs hok hlen hov hov' hdl
  go_enter Try.func62, Try.ntmps62
  go_wp2_with fail
  refine (cloneOps_some ad n c ds w HR.out hn).mono ?_
  rintro x w1 ⟨g, c', cur, rfl, hc1, hcm, hg, hbk, hrd, hb⟩
  have HB := Lib.hid hb
  have HK := Lib.hid hbk
  have HD := Lib.hid hrd
  have HCM := Lib.hid hcm
  clear hb hbk hrd hcm
  go_wp2_with fail
  go_loopw [9] (fun i wr => ∃ (k : Nat) (cu : Array Value) (pre post : List Opd), k ≤ n ∧ i = .int .i64 k ∧ pre.length = k ∧ (pre ++ post).length = n ∧ Blk wr g 45 cu ∧ Reads wr wr.heap.size 9 (some ⟨g, 0, none⟩) n (opsV (pre ++ post)) ∧ OpsV wr (Off w.heap.size (some g)) pre (cs.take k) ∧ OpsV wr (fun b => b < w.heap.size) post (cs.drop k) ∧ Below w.heap.size w wr) (fun i _ => n - (intOf i).toNat)
  case atStart => exact ⟨0, cur, [], ds, by omega, rfl, rfl, by have := HDL.out; have := HL.out; simp; omega, HK.out, HD.out, by simp [OpsV], HV.out.kept ⟨HB.out.size, fun b hb _ => HB.out.block b hb⟩, HB.out⟩
  case round =>
    obtain ⟨k, cu, pre, post, hk, rfl, hpl, htl, hbk, hrd, hov, hop, hb⟩ := hrel
    rcases Nat.lt_or_ge k n with hk1 | hk1
    · obtain ⟨o, post', rfl⟩ : ∃ o post', post = o :: post' := by
        cases post with
        | nil => simp at htl; omega
        | cons o p => exact ⟨o, p, rfl⟩
      obtain ⟨cc, cs', hcs, ⟨hA, hn', hc, rfl, hss⟩, hop'⟩ := hop.split
      have hck : cs[k]? = some cc := by
        have := congrArg (fun l : List OpC => l[0]?) hcs
        simpa using this
      have hdrop : cs.drop (k + 1) = cs' := by
        have := congrArg (fun l : List OpC => l.drop 1) hcs
        simpa [List.drop_drop, Nat.add_comm] using this
      have htake : cs.take (k + 1) = cs.take k ++ [cc] := by rw [List.take_add_one, hck]; rfl
      have hz := (HO.out cc (List.mem_of_getElem? hck)).hs
      have hsl := hss.len
      -- the cell
      have hxl : (opsV (pre ++ cc.at_ hA hn' hc :: post')).length = n * 9 := hrd.1
      obtain ⟨ad2, ea, _, hcell⟩ := hrd.2 (by omega)
      injection ea with ea
      subst ea
      have hcell8 : wr.cell? ⟨g, k * 9 + 7 + 1, none⟩ = some (.slice hA hn' hc) := by
        have h1 := hcell (k * 9 + 8) (.slice hA hn' hc) (by
          rw [opsV_append, List.getElem?_append_right (by rw [opsV_len]; omega), opsV_len, hpl, show k * 9 + 8 - k * 9 = 8 by omega, opsV_cons]
          simp [Opd.cells, OpC.at_])
        have e : (⟨g, 0, none⟩ : Addr).add (k * 9 + 8) = ⟨g, k * 9 + 7 + 1, none⟩ := by unfold Addr.add; rw [if_neg (by omega)]; simp
        rwa [e] at h1
      have HT := Lib.hid htake
      have HDR := Lib.hid hdrop
      have HPL := Lib.hid hpl
      have HTL := Lib.hid htl
      have HBK := Lib.hid hbk
      have HRD := Lib.hid hrd
      have HOV := Lib.hid hov
      have HOP := Lib.hid hop'
      have HBW := Lib.hid hb
      have HSS := Lib.hid hss
      clear htake hdrop hpl htl hbk hrd hov hop hop' hb hcell hck hcs hxl
      go_wp2_with fail
      refine (cloneStr_any wr HSS.out (by omega)).mono ?_
      rintro x w3 ⟨A3, c3, rfl, h3, hb3⟩
      have hbk3 := HBK.out.below hb3 HBK.out.lt
      have f8 := hbk3.frozen (k * 9 + 7 + 1)
      have d8 : w3.cell? ⟨g, k * 9 + 7 + 1, none⟩ = some (.slice hA hn' hc) := (hb3.cell (p := ⟨g, k * 9 + 7 + 1, none⟩) HBK.out.lt).trans hcell8
      have HK3 := Lib.hid hbk3
      have H3 := Lib.hid h3
      have HB3 := Lib.hid hb3
      clear hcell8 hbk3 h3 hb3
      go_wp2
      go_roundw
      case rel =>
        have hset := (((HRD.out.below HB3.out).more HB3.out.size).set_ (k * 9 + 8) (.slice A3 hn' c3) (by have := HRD.out.1; omega) (by omega))
        have e : (⟨g, 0, none⟩ : Addr).add (k * 9 + 8) = ⟨g, k * 9 + 7 + 1, none⟩ := by unfold Addr.add; rw [if_neg (by omega)]; simp
        have hpl := HPL.out
        rw [e, ← hpl, opsV_set, hpl] at hset
        have hk3 : Kept (Off w.heap.size (some g)) wr (w3.setCell ⟨g, k * 9 + 7 + 1, none⟩ (.slice A3 hn' c3)) := (Kept.of _ HB3.out).set_ ⟨g, k * 9 + 7 + 1, none⟩ (.inl fun h => h.2 rfl) _
        have hk4 : Kept (fun b => b < w.heap.size) wr (w3.setCell ⟨g, k * 9 + 7 + 1, none⟩ (.slice A3 hn' c3)) := (Kept.of _ HB3.out).set_ ⟨g, k * 9 + 7 + 1, none⟩ (.inl (by show ¬ g < w.heap.size; omega)) _
        have hgl := HBK.out.lt
        have hwr := HBW.out.size
        have hnew : StrIs (w3.setCell ⟨g, k * 9 + 7 + 1, none⟩ (.slice A3 hn' c3)) (Off w.heap.size (some g)) A3 hn' c3 cc.hs :=
          (H3.out.kept ((Kept.refl _ _).set_ ⟨g, k * 9 + 7 + 1, none⟩ (.inl (by show ¬ wr.heap.size ≤ g; omega)) _)).mono fun b _ h => ⟨by have : wr.heap.size ≤ b := h; omega, fun e => by injection e with e; have : wr.heap.size ≤ b := h; omega⟩
        refine ⟨k + 1, cu.setIfInBounds (k * 9 + 7 + 1) (.slice A3 hn' c3), pre ++ [cc.at_ A3 hn' c3], post', by omega, by go_num, by simp [hpl], by have := HTL.out; simp at this ⊢; omega, HK3.out.set_ _ _, ?_, ?_, ?_, ?_⟩
        · have e2 : (w3.setCell ⟨g, k * 9 + 7 + 1, none⟩ (.slice A3 hn' c3)).heap.size = w3.heap.size := by simp
          rw [e2, List.append_assoc]
          exact hset
        · rw [HT.out]
          exact (HOV.out.kept hk3).snoc ⟨A3, hn', c3, rfl, hnew⟩
        · rw [HDR.out]
          exact HOP.out.kept hk4
        · exact (HBW.out.trans (HB3.out.mono HBW.out.size)).setCell (p := ⟨g, _, none⟩) hg _
      case measure => simp [intOf]; omega
    · obtain rfl : n = k := by omega
      have hp0 : post = [] := by
        apply List.eq_nil_of_length_eq_zero
        simp at htl
        omega
      subst hp0
      rw [List.append_nil] at hrd
      rw [List.take_of_length_le (by rw [HL.out]; exact Nat.le_refl _)] at hov
      have HRD := Lib.hid hrd
      have HOV := Lib.hid hov
      have HBW := Lib.hid hb
      clear hbk hrd hov hop hb
      go_wp2
      go_ret
      exact ⟨_, c', rfl, ⟨pre, Rs.of HRD.out fun _ ad e => by injection e with e; subst e; exact hg, HOV.out.mono fun b _ h => h.1, hc1, HCM.out⟩, HBW.out⟩
end Go.Proofs.Ytaipgdhdfpemcaa

namespace Go.Proofs.Ytaipgdhdfpemcaa
open Go.RowKit

theorem slice_of (A : Option Addr) (n cap N M : Nat) (h1 : N ≤ M) (h2 : M ≤ n) (h3 : n ≤ cap) (_h4 : cap ≤ maxLen) (w : World) : (Instr.slice 28 (.slice A n cap) (some (.int .i64 (N : Nat))) (some (.int .i64 (M : Nat))) none).run Try.prog w = .ok (.slice (if cap = N then A else A.map (·.add (N * 9))) (M - N) (cap - N)) w := by
  have b1 : (0 : Int) ≤ (N : Int) := by omega
  have b2 : (N : Int) ≤ (M : Int) := by omega
  have b3 : (M : Int) ≤ (cap : Int) := by omega
  go_simp
theorem slice_lo (A : Option Addr) (n cap N : Nat) (h2 : N ≤ n) (h3 : n ≤ cap) (_h4 : cap ≤ maxLen) (w : World) : (Instr.slice 28 (.slice A n cap) none (some (.int .i64 (N : Nat))) none).run Try.prog w = .ok (.slice A N cap) w := by
  have b1 : (0 : Int) ≤ (N : Int) := by omega
  have b3 : (N : Int) ≤ (cap : Int) := by omega
  have e0 : ∀ a : Addr, a.add 0 = a := fun a => by simp [Addr.add]
  cases A with
  | none => go_simp; try simp
  | some a => go_simp; try simp [e0]
/-- the beginning of operations -/
theorem OpsIs.head {w : World} {S : Nat → Prop} {A : Option Addr} {n cap N : Nat} {cs : List OpC} (h : OpsIs w S A n cap cs) (hN : N ≤ n) : OpsIs w S A N cap (cs.take N) := by
  obtain ⟨os, h1, h2, h3, h4⟩ := h
  have hl := h1.1
  rw [opsV_len] at hl
  refine ⟨os.take N, ?_, h2.take N, by omega, h4⟩
  rw [← opsV_take os N (by omega)]
  refine ⟨by rw [List.length_take, h1.1]; omega, fun hn => ?_⟩
  obtain ⟨ad, e, x1, x2, x3⟩ := h1.2 (by omega)
  refine ⟨ad, e, x1, x2, fun j u hu => x3 j u ?_⟩
  rw [List.getElem?_take] at hu
  split at hu
  · exact hu
  · cases hu
/-- operations cut -/
theorem OpsIs.cut {w : World} {S : Nat → Prop} {A : Option Addr} {n cap N M : Nat} {cs : List OpC} (h : OpsIs w S A n cap cs) (h1 : N ≤ M) (h2 : M ≤ n) : OpsIs w S (if cap = N then A else A.map (·.add (N * 9))) (M - N) (cap - N) ((cs.drop N).take (M - N)) := by
  have h0 := h.head h2
  obtain ⟨os, k1, k2, k3, k4⟩ := h0
  have hl := k1.1
  rw [opsV_len] at hl
  have e : (cs.drop N).take (M - N) = (cs.take M).drop N := by rw [List.drop_take]
  rw [e]
  refine ⟨os.drop N, ?_, k2.drop N, by omega, by omega⟩
  rw [← opsV_drop os N (by omega)]
  refine ⟨by rw [List.length_drop, k1.1, Nat.sub_mul], fun hn => ?_⟩
  obtain ⟨ad, rfl, x1, x2, x3⟩ := k1.2 (by omega)
  rw [if_neg (by omega)]
  refine ⟨ad.add (N * 9), rfl, by rw [block_of_add]; exact x1, by rw [block_of_add]; exact x2, fun j u hu => ?_⟩
  rw [add_of_add]
  exact x3 _ u (by rw [← hu, List.getElem?_drop])
/-- the place of the last one -/
def lastC (cs : List OpC) : Int × Int := match cs.getLast? with
  | none => (0, 0)
  | some o => (o.n, o.epoch)
theorem lastL_any (A : Option Addr) (n c : Nat) (cs : List OpC) (w : World) {S : Nat → Prop} (h : OpsIs w S A n c cs) (hn : n ≤ 4294967296) :
    Calls Try.prog 60 #[.agg #[.int .i64 0, .int .i64 0], .slice A n c] w fun x w' => x = .returned (.agg #[.int .i64 (lastC cs).1, .int .i64 (lastC cs).2]) ∧ Below w.heap.size w w' := by
  obtain ⟨os, h1, h2, h3, h4⟩ := h
  have hl := h2.len
  have e : lastC cs = lastOf 0 0 os := by
    unfold lastC lastOf
    rw [List.getLast?_eq_getElem?, List.getLast?_eq_getElem?]
    cases ho : os[os.length - 1]? with
    | none =>
      have : os.length - 1 ≥ os.length := by
        rcases Nat.lt_or_ge (os.length - 1) os.length with h | h
        · rw [List.getElem?_eq_getElem h] at ho; cases ho
        · exact h
      have h0 : cs.length = 0 := by omega
      rw [List.eq_nil_of_length_eq_zero h0]
      rfl
    | some o =>
      obtain ⟨c, hc, A, n', cap, e, _⟩ := h2.get _ _ ho
      rw [← hl, hc]
      subst e
      rfl
  rw [e]
  exact last_any 0 0 A n c os w h1.reads hn
set_option maxHeartbeats 1000000 in
theorem copied_none (c : Nat) (w : World) : Calls Try.prog 62 #[.slice none 0 c] w fun x w' => x = .returned (.slice none 0 0) ∧ w' = w := by
  have hc : ∀ w : World, Calls Try.prog 98 #[.slice none 0 c] w fun x w' => x = .returned (.slice none 0 0) ∧ w' = w := by
    intro w
    have q : ∀ (w : World), (binOp .eql 28 (.slice none 0 c) (.slice none 0 0)).run Try.prog w = .ok (.bool true) w := fun w => Lib.run_eql_slice_nil w _ _ none 0 c 0 0 Try.underlying28
    go_enter Try.func98, Try.ntmps98
    go_wp2
    go_ret
    exact ⟨rfl, rfl⟩
  have HC := Lib.hid hc
  clear hc
  go_enter Try.func62, Try.ntmps62
  go_wp2_with fail
  refine (HC.out w).mono ?_
  rintro x w1 ⟨rfl, rfl⟩
  go_wp2_with fail
  go_loopw [9] (fun i wr => i = .int .i64 0 ∧ wr = w1) (fun _ _ => 0)
  case atStart => exact ⟨rfl, rfl⟩
  case round =>
    obtain ⟨rfl, rfl⟩ := hrel
    go_wp2
    go_ret
    exact ⟨rfl, rfl⟩
theorem copiedL_any (A : Option Addr) (n c : Nat) (cs : List OpC) (w : World) {S : Nat → Prop} (h : OpsIs w S A n c cs) (hn : n ≤ 4294967296) (hok : ∀ o ∈ cs, o.Ok) :
    Calls Try.prog 62 #[.slice A n c] w fun x w' => ∃ A' c', x = .returned (.slice A' n c') ∧ OpsIs w' (From w.heap.size) A' n c' cs ∧ Below w.heap.size w w' := by
  rcases A with _ | ad
  · have hl := h.len
    have h0 : n = 0 := by
      obtain ⟨os, h1, _⟩ := h
      rcases Nat.eq_zero_or_pos n with h0 | h0
      · exact h0
      · obtain ⟨_, e, _⟩ := h1.2 h0
        cases e
    subst h0
    have e : cs = [] := List.eq_nil_of_length_eq_zero hl
    subst e
    refine (copied_none c w).mono ?_
    rintro x w1 ⟨rfl, rfl⟩
    exact ⟨none, 0, rfl, OpsIs.nil_ _ _ _ _ (Nat.zero_le _), Below.refl _ _⟩
  · exact copied_some ad n c cs w h hn hok

/-- where Offer stands -/
structure Ok4 (w0 W : World) (S : Nat → Prop) (lb : Nat) (l : LaneC) (A : Option Addr) (n cap : Nat) (os : List OpC) : Prop where
  lane : LaneIs W S lb l
  ops : OpsIs W S A n cap os
  low : Below w0.heap.size w0 W
theorem Ok4.below {w0 W W' : World} {S : Nat → Prop} {lb : Nat} {l : LaneC} {A : Option Addr} {n cap : Nat} {os : List OpC} (h : Ok4 w0 W S lb l A n cap os) (hb : Below W.heap.size W W') : Ok4 w0 W' S lb l A n cap os :=
  ⟨h.lane.below hb, h.ops.below hb, h.low.trans (hb.mono h.low.size)⟩
/-- a mail's block -/
def MBlk (w : World) (b : Nat) : Prop := ∃ cs, Blk w b 30 cs ∧ cs.size = 17
theorem MBlk.below {w w' : World} {b : Nat} (h : MBlk w b) (hb : Below w.heap.size w w') : MBlk w' b := by
  obtain ⟨cs, h1, h2⟩ := h
  exact ⟨cs, h1.below hb h1.lt, h2⟩
theorem fin_below {w0 W W' : World} {rb M N : Nat} {l : LaneC} {os : List OpC} (h : ∃ A' c', Blk W rb 30 (mailC 9 0 0 0 0 false none 0 0 ⟨#[]⟩ none 0 0 l.epoch l.site (lastC (os.take N)).1 (lastC (os.take N)).2 0 0 none 0 0 A' (M - N) c') ∧ OpsIs W (From (w0.heap.size + 1)) A' (M - N) c' ((os.drop N).take (M - N))) (hb : Below W.heap.size W W') : ∃ A' c', Blk W' rb 30 (mailC 9 0 0 0 0 false none 0 0 ⟨#[]⟩ none 0 0 l.epoch l.site (lastC (os.take N)).1 (lastC (os.take N)).2 0 0 none 0 0 A' (M - N) c') ∧ OpsIs W' (From (w0.heap.size + 1)) A' (M - N) c' ((os.drop N).take (M - N)) := by
  obtain ⟨A', c', h1, h2⟩ := h
  exact ⟨A', c', h1.below hb h1.lt, h2.below hb⟩
theorem Ok4.setR {w0 W : World} {lb rb : Nat} {l : LaneC} {A : Option Addr} {n cap : Nat} {os : List OpC} (h : Ok4 w0 W (fun b => b < w0.heap.size) lb l A n cap os) (hr : rb = w0.heap.size) (vs : List Value) (hl : lb < w0.heap.size := by assumption) : Ok4 w0 (W.setCells rb 0 vs) (fun b => b < w0.heap.size) lb l A n cap os := by
  have hsv := save_setCells W rb 0 vs
  have hsz := size_setCells W rb 0 vs
  have hk : Kept (fun b => b < w0.heap.size) W (W.setCells rb 0 vs) := ⟨by rw [hsz]; exact Nat.le_refl _, fun b h1 h2 => hsv b h2 (by have : b < w0.heap.size := h1; omega)⟩
  exact ⟨h.lane.kept hk (hsv lb h.lane.lt (by omega)), h.ops.kept hk, below_setCells (by omega) h.low _ _⟩


theorem eta39 (t : Array Value) (h : t.size = 39) : t = #[at_ t 0, at_ t 1, at_ t 2, at_ t 3, at_ t 4, at_ t 5, at_ t 6, at_ t 7, at_ t 8, at_ t 9, at_ t 10, at_ t 11, at_ t 12, at_ t 13, at_ t 14, at_ t 15, at_ t 16, at_ t 17, at_ t 18, at_ t 19, at_ t 20, at_ t 21, at_ t 22, at_ t 23, at_ t 24, at_ t 25, at_ t 26, at_ t 27, at_ t 28, at_ t 29, at_ t 30, at_ t 31, at_ t 32, at_ t 33, at_ t 34, at_ t 35, at_ t 36, at_ t 37, at_ t 38] := (eta_ t h).trans (by kernel_rfl)

set_option maxRecDepth 100000 in
set_option maxHeartbeats 4000000 in
theorem off3 (Q : Exit → Act → World → Prop) (a : Act) (w : World) (lb rb : Nat) (l : LaneC) {A : Option Addr} {n cap N : Nat} (hfr : Fr 39 a [(0, .pointer (some ⟨lb, 0, none⟩)), (1, .slice A n cap), (4, .pointer (some ⟨rb, 0, none⟩))]) (c7 : w.cell? ⟨lb, 7, none⟩ = some (.int .i64 l.next)) (hm : (if (n : Int) < l.next then (n : Int) else l.next) = (N : Int))
    (hQ : ∀ a', Fr 39 a' [(0, .pointer (some ⟨lb, 0, none⟩)), (1, .slice A n cap), (4, .pointer (some ⟨rb, 0, none⟩)), (5, .int .i64 (N : Nat))] → Q .normal a' w) : (part [1, 1, 0] (codeOf offerF)).wp Try.prog Q a w := by
  have HQ := Lib.hid hQ
  have HM := Lib.hid hm
  clear hQ hm
  obtain ⟨t, df⟩ := a
  obtain ⟨hd, hs, h0, h1, h4, -⟩ := hfr
  simp only at hd hs h0 h1 h4
  subst hd
  rw [eta39 t hs, h0, h1, h4]
  clear hs h0 h1 h4
  conv => arg 2; whnf
  by_cases hc : (n : Int) < l.next
  · have e : (n : Int) = (N : Int) := by have := HM.out; rw [if_pos hc] at this; exact this
    have E := Lib.hid e
    clear e
    go_wp2_with fail
    exact HQ.out _ ⟨rfl, rfl, rfl, rfl, rfl, congrArg (Value.int .i64) E.out, trivial⟩
  · have e : l.next = (N : Int) := by have := HM.out; rw [if_neg hc] at this; exact this
    have E := Lib.hid e
    clear e
    go_wp2_with fail
    exact HQ.out _ ⟨rfl, rfl, rfl, rfl, rfl, congrArg (Value.int .i64) E.out, trivial⟩

set_option maxRecDepth 100000 in
set_option maxHeartbeats 4000000 in
theorem off4 (a : Act) (w0 w : World) (lb rb : Nat) (l : LaneC) (os : List OpC) {A : Option Addr} {n cap : Nat} (N M : Nat) (hfr : Fr 39 a [(0, .pointer (some ⟨lb, 0, none⟩)), (1, .slice A n cap), (4, .pointer (some ⟨rb, 0, none⟩)), (5, .int .i64 (N : Nat))])
    (hrb : rb = w0.heap.size) (hlt : lb < w0.heap.size) (hn : n ≤ 4294967296) (hb : N ≤ n ∧ N ≤ M ∧ n ≤ cap ∧ cap ≤ maxLen) (hm : M ≤ n) (hme : M = min n (N + 8)) (hok : ∀ o ∈ (os.drop N).take (M - N), o.Ok)
    (h4 : Ok4 w0 w (fun b => b < w0.heap.size) lb l A n cap os) (hsz : w0.heap.size + 1 ≤ w.heap.size) (hmb : MBlk w rb) :
    (part [1, 1, 1] (codeOf offerF)).wp Try.prog (bodyPost Try.prog offerF fun x w' => ∃ A' c', x = .returned (.agg (mailC 9 0 0 0 0 false none 0 0 ⟨#[]⟩ none 0 0 l.epoch l.site (lastC (os.take N)).1 (lastC (os.take N)).2 0 0 none 0 0 A' (M - N) c')) ∧ OpsIs w' (From w0.heap.size) A' (M - N) c' ((os.drop N).take (M - N)) ∧ Below w0.heap.size w0 w') a w := by
  have HRB := Lib.hid hrb
  have HN := Lib.hid hn
  have HB := Lib.hid hb
  have HM := Lib.hid hm
  have HME := Lib.hid hme
  have HOK := Lib.hid hok
  have HOK4 := Lib.hid h4
  have HSZ := Lib.hid hsz
  have HMB := Lib.hid hmb
  clear hrb hn hb hm hme hok h4 hsz hmb
  obtain ⟨t, df⟩ := a
  obtain ⟨hd, hs, h0, h1, h4, h5, -⟩ := hfr
  simp only at hd hs h0 h1 h4 h5
  subst hd
  rw [eta39 t hs, h0, h1, h4, h5]
  clear hs h0 h1 h4 h5
  refine wp_two (x := part [1, 1, 1, 0] (codeOf offerF)) (y := part [1, 1, 1, 1] (codeOf offerF)) (by kernel_rfl) ?_
  conv => arg 2; whnf
  refine wp_region_all (by kernel_rfl) (fun i v W => match i with | 0 => v = .pointer (some ⟨lb, 0, none⟩) | 1 => v = .pointer (some ⟨lb, 0, none⟩) | 2 => v = .pointer (some ⟨lb, 5, none⟩) | 3 => v = .int .i64 l.epoch | 4 => v = .pointer (some ⟨lb, 0, none⟩) | 5 => v = .pointer (some ⟨lb, 0, none⟩) | 6 => v = .pointer (some ⟨lb, 6, none⟩) | 7 => v = .int .i64 l.site | 8 => v = .agg #[.int .i64 0, .int .i64 0] | 9 => v = .slice A n cap | 10 => v = .int .i64 (N : Nat) | 11 => v = .slice A N cap | 12 => v = .agg #[.int .i64 (lastC (os.take N)).1, .int .i64 (lastC (os.take N)).2] | 13 => v = .slice A n cap | 14 => v = .int .i64 (N : Nat) | 15 => v = .slice A n cap | 16 => v = .int .i64 (n : Nat) | 17 => v = .int .i64 (N : Nat) | 18 => v = .int .i64 ((N : Nat) + 8 : Int) | 19 => v = .int .i64 (M : Nat) | 20 => v = .slice (if cap = N then A else A.map (·.add (N * 9))) (M - N) (cap - N) | 21 => ∃ A' c', v = .slice A' (M - N) c' ∧ OpsIs W (From (w0.heap.size + 1)) A' (M - N) c' ((os.drop N).take (M - N)) | 22 => ∃ A' c', v = .agg (mailC 9 0 0 0 0 false none 0 0 ⟨#[]⟩ none 0 0 l.epoch l.site (lastC (os.take N)).1 (lastC (os.take N)).2 0 0 none 0 0 A' (M - N) c') ∧ OpsIs W (From (w0.heap.size + 1)) A' (M - N) c' ((os.drop N).take (M - N)) | 23 => ∃ A' c', Blk W rb 30 (mailC 9 0 0 0 0 false none 0 0 ⟨#[]⟩ none 0 0 l.epoch l.site (lastC (os.take N)).1 (lastC (os.take N)).2 0 0 none 0 0 A' (M - N) c') ∧ OpsIs W (From (w0.heap.size + 1)) A' (M - N) c' ((os.drop N).take (M - N)) | _ => True) (fun W => Ok4 w0 W (fun b => b < w0.heap.size) lb l A n cap os ∧ w0.heap.size + 1 ≤ W.heap.size ∧ MBlk W rb) (fun W W' => (Save rb W W' ∧ W.heap.size ≤ W'.heap.size) ∧ ((∃ A' c', Blk W rb 30 (mailC 9 0 0 0 0 false none 0 0 ⟨#[]⟩ none 0 0 l.epoch l.site (lastC (os.take N)).1 (lastC (os.take N)).2 0 0 none 0 0 A' (M - N) c') ∧ OpsIs W (From (w0.heap.size + 1)) A' (M - N) c' ((os.drop N).take (M - N))) → ∃ A' c', Blk W' rb 30 (mailC 9 0 0 0 0 false none 0 0 ⟨#[]⟩ none 0 0 l.epoch l.site (lastC (os.take N)).1 (lastC (os.take N)).2 0 0 none 0 0 A' (M - N) c') ∧ OpsIs W' (From (w0.heap.size + 1)) A' (M - N) c' ((os.drop N).take (M - N)))) (by kernel_rfl) ?hG ?hmono ?hstep ?hend
  case hG => exact ⟨HOK4.out.below ⟨rfl, rfl, rfl, Nat.le_refl _, fun _ _ => rfl⟩, HSZ.out, HMB.out⟩
  case hmono =>
    intro i v W W' hx hv
    match i with
    | 21 =>
      obtain ⟨A', c', rfl, hi⟩ := hv
      exact ⟨A', c', rfl, hi.kept ⟨hx.1.2, fun b h1 h2 => hx.1.1 b h2 (by have : w0.heap.size + 1 ≤ b := h1; have := HRB.out; omega)⟩⟩
    | 22 =>
      obtain ⟨A', c', rfl, hi⟩ := hv
      exact ⟨A', c', rfl, hi.kept ⟨hx.1.2, fun b h1 h2 => hx.1.1 b h2 (by have : w0.heap.size + 1 ≤ b := h1; have := HRB.out; omega)⟩⟩
    | 23 =>
      exact hx.2 hv
    | 0 | 1 | 2 | 3 | 4 | 5 | 6 | 7 | 8 | 9 | 10 | 11 | 12 | 13 | 14 | 15 | 16 | 17 | 18 | 19 | 20 => exact hv
    | i + 24 => exact hv
  case hstep =>
    intro i o F U W ho hGW hat hoff hp
    have hrefl := fun W : World => (⟨⟨fun _ _ _ => rfl, Nat.le_refl _⟩, fun h => h⟩ : (Save rb W W ∧ W.heap.size ≤ W.heap.size) ∧ ((∃ A' c', Blk W rb 30 (mailC 9 0 0 0 0 false none 0 0 ⟨#[]⟩ none 0 0 l.epoch l.site (lastC (os.take N)).1 (lastC (os.take N)).2 0 0 none 0 0 A' (M - N) c') ∧ OpsIs W (From (w0.heap.size + 1)) A' (M - N) c' ((os.drop N).take (M - N))) → ∃ A' c', Blk W rb 30 (mailC 9 0 0 0 0 false none 0 0 ⟨#[]⟩ none 0 0 l.epoch l.site (lastC (os.take N)).1 (lastC (os.take N)).2 0 0 none 0 0 A' (M - N) c') ∧ OpsIs W (From (w0.heap.size + 1)) A' (M - N) c' ((os.drop N).take (M - N))))
    match i with
      | 0 =>
        injection (show some _ = some o from ho) with ho
        subst ho
        refine on_ (wanted_none rfl) ?_
        have e0 : F.eval (.tmp 0) = .pointer (some ⟨lb, 0, none⟩) := (hoff 0 (of_decide_eq_true (by kernel_rfl))).trans rfl
        exact wp_move' (.tmp 0) rfl ⟨_, rfl, e0, hGW, hrefl W⟩
      | 1 =>
        injection (show some _ = some o from ho) with ho
        subst ho
        refine on_ (wanted_none rfl) ?_
        have e16 : F.eval (.tmp 16) = .pointer (some ⟨lb, 0, none⟩) := (hat 0 16 (of_decide_eq_true (by kernel_rfl)) rfl).trans (hp ⟨0, .data⟩ (by simp) rfl : U 0 = .pointer (some ⟨lb, 0, none⟩))
        have t16 := act_tmp e16
        clear hat hoff hp
        exact wp_value' (.pointer (some ⟨lb, 0, none⟩)) W (by unfold execOp; go_simp) ⟨_, rfl, rfl, hGW, hrefl W⟩
      | 2 =>
        injection (show some _ = some o from ho) with ho
        subst ho
        refine on_ (wanted_none rfl) ?_
        have e17 : F.eval (.tmp 17) = .pointer (some ⟨lb, 0, none⟩) := (hat 1 17 (of_decide_eq_true (by kernel_rfl)) rfl).trans (hp ⟨1, .data⟩ (by simp) rfl : U 1 = .pointer (some ⟨lb, 0, none⟩))
        have t17 := act_tmp e17
        clear hat hoff hp
        exact wp_value' (.pointer (some ⟨lb, 5, none⟩)) W (by unfold execOp; go_simp) ⟨_, rfl, rfl, hGW, hrefl W⟩
      | 3 =>
        injection (show some _ = some o from ho) with ho
        subst ho
        refine on_ (wanted_none rfl) ?_
        have e18 : F.eval (.tmp 18) = .pointer (some ⟨lb, 5, none⟩) := (hat 2 18 (of_decide_eq_true (by kernel_rfl)) rfl).trans (hp ⟨2, .data⟩ (by simp) rfl : U 2 = .pointer (some ⟨lb, 5, none⟩))
        have t18 := act_tmp e18
        clear hat hoff hp
        obtain ⟨oA, on, oc, kl, ki⟩ := hGW.1.lane
        have d := kl.cell 5
        simp at d
        exact wp_value' (.int .i64 l.epoch) W (by unfold execOp; go_simp) ⟨_, rfl, rfl, hGW, hrefl W⟩
      | 4 =>
        injection (show some _ = some o from ho) with ho
        subst ho
        refine on_ (wanted_none rfl) ?_
        have e0 : F.eval (.tmp 0) = .pointer (some ⟨lb, 0, none⟩) := (hoff 0 (of_decide_eq_true (by kernel_rfl))).trans rfl
        exact wp_move' (.tmp 0) rfl ⟨_, rfl, e0, hGW, hrefl W⟩
      | 5 =>
        injection (show some _ = some o from ho) with ho
        subst ho
        refine on_ (wanted_none rfl) ?_
        have e20 : F.eval (.tmp 20) = .pointer (some ⟨lb, 0, none⟩) := (hat 4 20 (of_decide_eq_true (by kernel_rfl)) rfl).trans (hp ⟨4, .data⟩ (by simp) rfl : U 4 = .pointer (some ⟨lb, 0, none⟩))
        have t20 := act_tmp e20
        clear hat hoff hp
        exact wp_value' (.pointer (some ⟨lb, 0, none⟩)) W (by unfold execOp; go_simp) ⟨_, rfl, rfl, hGW, hrefl W⟩
      | 6 =>
        injection (show some _ = some o from ho) with ho
        subst ho
        refine on_ (wanted_none rfl) ?_
        have e21 : F.eval (.tmp 21) = .pointer (some ⟨lb, 0, none⟩) := (hat 5 21 (of_decide_eq_true (by kernel_rfl)) rfl).trans (hp ⟨5, .data⟩ (by simp) rfl : U 5 = .pointer (some ⟨lb, 0, none⟩))
        have t21 := act_tmp e21
        clear hat hoff hp
        exact wp_value' (.pointer (some ⟨lb, 6, none⟩)) W (by unfold execOp; go_simp) ⟨_, rfl, rfl, hGW, hrefl W⟩
      | 7 =>
        injection (show some _ = some o from ho) with ho
        subst ho
        refine on_ (wanted_none rfl) ?_
        have e22 : F.eval (.tmp 22) = .pointer (some ⟨lb, 6, none⟩) := (hat 6 22 (of_decide_eq_true (by kernel_rfl)) rfl).trans (hp ⟨6, .data⟩ (by simp) rfl : U 6 = .pointer (some ⟨lb, 6, none⟩))
        have t22 := act_tmp e22
        clear hat hoff hp
        obtain ⟨oA, on, oc, kl, ki⟩ := hGW.1.lane
        have d := kl.cell 6
        simp at d
        exact wp_value' (.int .i64 l.site) W (by unfold execOp; go_simp) ⟨_, rfl, rfl, hGW, hrefl W⟩
      | 8 =>
        injection (show some _ = some o from ho) with ho
        subst ho
        refine on_ (wanted_none rfl) ?_
        clear hat hoff hp
        exact wp_value' (.agg #[.int .i64 0, .int .i64 0]) W (by unfold execOp; go_simp) ⟨_, rfl, rfl, hGW, hrefl W⟩
      | 9 =>
        injection (show some _ = some o from ho) with ho
        subst ho
        refine on_ (wanted_none rfl) ?_
        have e1 : F.eval (.tmp 1) = .slice A n cap := (hoff 1 (of_decide_eq_true (by kernel_rfl))).trans rfl
        exact wp_move' (.tmp 1) rfl ⟨_, rfl, e1, hGW, hrefl W⟩
      | 10 =>
        injection (show some _ = some o from ho) with ho
        subst ho
        refine on_ (wanted_none rfl) ?_
        have e5 : F.eval (.tmp 5) = .int .i64 (N : Nat) := (hoff 5 (of_decide_eq_true (by kernel_rfl))).trans rfl
        exact wp_move' (.tmp 5) rfl ⟨_, rfl, e5, hGW, hrefl W⟩
      | 11 =>
        injection (show some _ = some o from ho) with ho
        subst ho
        refine on_ (wanted_none rfl) ?_
        have e25 : F.eval (.tmp 25) = .slice A n cap := (hat 9 25 (of_decide_eq_true (by kernel_rfl)) rfl).trans (hp ⟨9, .data⟩ (by simp) rfl : U 9 = .slice A n cap)
        have t25 := act_tmp e25
        have e26 : F.eval (.tmp 26) = .int .i64 (N : Nat) := (hat 10 26 (of_decide_eq_true (by kernel_rfl)) rfl).trans (hp ⟨10, .data⟩ (by simp) rfl : U 10 = .int .i64 (N : Nat))
        have t26 := act_tmp e26
        clear hat hoff hp
        exact wp_value' (.slice A N cap) W (by unfold execOp; have q := slice_lo A n cap N HB.out.1 HB.out.2.2.1 HB.out.2.2.2 W; go_simp) ⟨_, rfl, rfl, hGW, hrefl W⟩
      | 12 =>
        injection (show some _ = some o from ho) with ho
        subst ho
        refine on_ (wanted_none rfl) ?_
        have e24 : F.eval (.tmp 24) = .agg #[.int .i64 0, .int .i64 0] := (hat 8 24 (of_decide_eq_true (by kernel_rfl)) rfl).trans (hp ⟨8, .data⟩ (by simp) rfl : U 8 = .agg #[.int .i64 0, .int .i64 0])
        have t24 := act_tmp e24
        have e27 : F.eval (.tmp 27) = .slice A N cap := (hat 11 27 (of_decide_eq_true (by kernel_rfl)) rfl).trans (hp ⟨11, .data⟩ (by simp) rfl : U 11 = .slice A N cap)
        have t27 := act_tmp e27
        clear hat hoff hp
        refine wp_enter' 60 #[.agg #[.int .i64 0, .int .i64 0], .slice A N cap] (by unfold execOp; go_simp) ?_
        refine (lastL_any A N cap (os.take N) W (hGW.1.ops.head HB.out.1) (by have := HN.out; have := HB.out.1; omega)).mono ?_
        rintro e W' ⟨rfl, hb⟩
        exact ⟨_, rfl, _, rfl, rfl, ⟨hGW.1.below hb, Nat.le_trans hGW.2.1 hb.size, hGW.2.2.below hb⟩, ⟨Save.of hb, hb.size⟩, fun h => fin_below h hb⟩
      | 13 =>
        injection (show some _ = some o from ho) with ho
        subst ho
        refine on_ (wanted_none rfl) ?_
        have e1 : F.eval (.tmp 1) = .slice A n cap := (hoff 1 (of_decide_eq_true (by kernel_rfl))).trans rfl
        exact wp_move' (.tmp 1) rfl ⟨_, rfl, e1, hGW, hrefl W⟩
      | 14 =>
        injection (show some _ = some o from ho) with ho
        subst ho
        refine on_ (wanted_none rfl) ?_
        have e5 : F.eval (.tmp 5) = .int .i64 (N : Nat) := (hoff 5 (of_decide_eq_true (by kernel_rfl))).trans rfl
        exact wp_move' (.tmp 5) rfl ⟨_, rfl, e5, hGW, hrefl W⟩
      | 15 =>
        injection (show some _ = some o from ho) with ho
        subst ho
        refine on_ (wanted_none rfl) ?_
        have e1 : F.eval (.tmp 1) = .slice A n cap := (hoff 1 (of_decide_eq_true (by kernel_rfl))).trans rfl
        exact wp_move' (.tmp 1) rfl ⟨_, rfl, e1, hGW, hrefl W⟩
      | 16 =>
        injection (show some _ = some o from ho) with ho
        subst ho
        refine on_ (wanted_none rfl) ?_
        have e31 : F.eval (.tmp 31) = .slice A n cap := (hat 15 31 (of_decide_eq_true (by kernel_rfl)) rfl).trans (hp ⟨15, .data⟩ (by simp) rfl : U 15 = .slice A n cap)
        have t31 := act_tmp e31
        clear hat hoff hp
        exact wp_value' (.int .i64 (n : Nat)) W (by unfold execOp; go_simp) ⟨_, rfl, rfl, hGW, hrefl W⟩
      | 17 =>
        injection (show some _ = some o from ho) with ho
        subst ho
        refine on_ (wanted_none rfl) ?_
        have e5 : F.eval (.tmp 5) = .int .i64 (N : Nat) := (hoff 5 (of_decide_eq_true (by kernel_rfl))).trans rfl
        exact wp_move' (.tmp 5) rfl ⟨_, rfl, e5, hGW, hrefl W⟩
      | 18 =>
        injection (show some _ = some o from ho) with ho
        subst ho
        refine on_ (wanted_none rfl) ?_
        have e33 : F.eval (.tmp 33) = .int .i64 (N : Nat) := (hat 17 33 (of_decide_eq_true (by kernel_rfl)) rfl).trans (hp ⟨17, .data⟩ (by simp) rfl : U 17 = .int .i64 (N : Nat))
        have t33 := act_tmp e33
        clear hat hoff hp
        exact wp_value' (.int .i64 ((N : Nat) + 8 : Int)) W (by unfold execOp; have hb := HB.out; have hb2 := HN.out; go_simp; all_goals first | omega | exact IntWalk.i64_in _ (by omega)) ⟨_, rfl, rfl, hGW, hrefl W⟩
      | 19 =>
        injection (show some _ = some o from ho) with ho
        subst ho
        refine on_ (wanted_none rfl) ?_
        have e32 : F.eval (.tmp 32) = .int .i64 (n : Nat) := (hat 16 32 (of_decide_eq_true (by kernel_rfl)) rfl).trans (hp ⟨16, .data⟩ (by simp) rfl : U 16 = .int .i64 (n : Nat))
        have t32 := act_tmp e32
        have e34 : F.eval (.tmp 34) = .int .i64 ((N : Nat) + 8 : Int) := (hat 18 34 (of_decide_eq_true (by kernel_rfl)) rfl).trans (hp ⟨18, .data⟩ (by simp) rfl : U 18 = .int .i64 ((N : Nat) + 8 : Int))
        have t34 := act_tmp e34
        clear hat hoff hp
        have q : (if ((N : Nat) + 8 : Int) < (n : Nat) then ((N : Nat) + 8 : Int) else (n : Nat)) = ((M : Nat) : Int) := by have := HME.out; split <;> omega
        exact wp_value' (.int .i64 (if ((N : Nat) + 8 : Int) < (n : Nat) then ((N : Nat) + 8 : Int) else (n : Nat))) W (by unfold execOp; go_simp) ⟨_, rfl, congrArg (Value.int .i64) q, hGW, hrefl W⟩
      | 20 =>
        injection (show some _ = some o from ho) with ho
        subst ho
        refine on_ (wanted_none rfl) ?_
        have e29 : F.eval (.tmp 29) = .slice A n cap := (hat 13 29 (of_decide_eq_true (by kernel_rfl)) rfl).trans (hp ⟨13, .data⟩ (by simp) rfl : U 13 = .slice A n cap)
        have t29 := act_tmp e29
        have e30 : F.eval (.tmp 30) = .int .i64 (N : Nat) := (hat 14 30 (of_decide_eq_true (by kernel_rfl)) rfl).trans (hp ⟨14, .data⟩ (by simp) rfl : U 14 = .int .i64 (N : Nat))
        have t30 := act_tmp e30
        have e35 : F.eval (.tmp 35) = .int .i64 (M : Nat) := (hat 19 35 (of_decide_eq_true (by kernel_rfl)) rfl).trans (hp ⟨19, .data⟩ (by simp) rfl : U 19 = .int .i64 (M : Nat))
        have t35 := act_tmp e35
        clear hat hoff hp
        exact wp_value' (.slice (if cap = N then A else A.map (·.add (N * 9))) (M - N) (cap - N)) W (by unfold execOp; have q := slice_of A n cap N M HB.out.2.1 HM.out HB.out.2.2.1 HB.out.2.2.2 W; go_simp) ⟨_, rfl, rfl, hGW, hrefl W⟩
      | 21 =>
        injection (show some _ = some o from ho) with ho
        subst ho
        refine on_ (wanted_none rfl) ?_
        have e36 : F.eval (.tmp 36) = .slice (if cap = N then A else A.map (·.add (N * 9))) (M - N) (cap - N) := (hat 20 36 (of_decide_eq_true (by kernel_rfl)) rfl).trans (hp ⟨20, .data⟩ (by simp) rfl : U 20 = .slice (if cap = N then A else A.map (·.add (N * 9))) (M - N) (cap - N))
        have t36 := act_tmp e36
        clear hat hoff hp
        refine wp_enter' 62 #[.slice (if cap = N then A else A.map (·.add (N * 9))) (M - N) (cap - N)] (by unfold execOp; go_simp) ?_
        refine (copiedL_any _ (M - N) (cap - N) _ W (hGW.1.ops.cut HB.out.2.1 HM.out) (by have := HN.out; have := HM.out; omega) HOK.out).mono ?_
        rintro e W' ⟨A', c', rfl, hi, hb⟩
        have hs := hGW.2.1
        exact ⟨_, rfl, _, rfl, ⟨A', c', rfl, hi.mono fun b _ h => (show w0.heap.size + 1 ≤ b from Nat.le_trans hs h)⟩, ⟨hGW.1.below hb, Nat.le_trans hs hb.size, hGW.2.2.below hb⟩, ⟨Save.of hb, hb.size⟩, fun h => fin_below h hb⟩
      | 22 =>
        injection (show some _ = some o from ho) with ho
        subst ho
        refine on_ (wanted_none rfl) ?_
        have e19 : F.eval (.tmp 19) = .int .i64 l.epoch := (hat 3 19 (of_decide_eq_true (by kernel_rfl)) rfl).trans (hp ⟨3, .data⟩ (by simp) rfl : U 3 = .int .i64 l.epoch)
        have t19 := act_tmp e19
        have e23 : F.eval (.tmp 23) = .int .i64 l.site := (hat 7 23 (of_decide_eq_true (by kernel_rfl)) rfl).trans (hp ⟨7, .data⟩ (by simp) rfl : U 7 = .int .i64 l.site)
        have t23 := act_tmp e23
        have e28 : F.eval (.tmp 28) = .agg #[.int .i64 (lastC (os.take N)).1, .int .i64 (lastC (os.take N)).2] := (hat 12 28 (of_decide_eq_true (by kernel_rfl)) rfl).trans (hp ⟨12, .data⟩ (by simp) rfl : U 12 = .agg #[.int .i64 (lastC (os.take N)).1, .int .i64 (lastC (os.take N)).2])
        have t28 := act_tmp e28
        have e37 := hat 21 37 (of_decide_eq_true (by kernel_rfl)) rfl
        have v37 := hp ⟨21, .data⟩ (by simp) rfl
        clear hat hoff hp
        obtain ⟨A', c', h37, hi⟩ := v37
        rw [h37] at e37
        have t37 := act_tmp e37
        exact wp_value' (.agg (mailC 9 0 0 0 0 false none 0 0 ⟨#[]⟩ none 0 0 l.epoch l.site (lastC (os.take N)).1 (lastC (os.take N)).2 0 0 none 0 0 A' (M - N) c')) W (by unfold execOp; go_simp) ⟨_, rfl, ⟨A', c', rfl, hi⟩, hGW, hrefl W⟩
      | 23 =>
        injection (show some _ = some o from ho) with ho
        subst ho
        refine on_ (wanted_none rfl) ?_
        have e4 : F.eval (.tmp 4) = .pointer (some ⟨rb, 0, none⟩) := (hoff 4 (of_decide_eq_true (by kernel_rfl))).trans rfl
        have t4 := act_tmp e4
        have e38 := hat 22 38 (of_decide_eq_true (by kernel_rfl)) rfl
        have v38 := hp ⟨22, .data⟩ (by simp) rfl
        clear hat hoff hp
        obtain ⟨A', c', h38, hi⟩ := v38
        rw [h38] at e38
        obtain ⟨cs0, hk0, hs0⟩ := hGW.2.2
        have hn := hk0.setCells_ (mailC 9 0 0 0 0 false none 0 0 ⟨#[]⟩ none 0 0 l.epoch l.site (lastC (os.take N)).1 (lastC (os.take N)).2 0 0 none 0 0 A' (M - N) c').toList (by rw [hs0]; rfl)
        have hsv := save_setCells W rb 0 (mailC 9 0 0 0 0 false none 0 0 ⟨#[]⟩ none 0 0 l.epoch l.site (lastC (os.take N)).1 (lastC (os.take N)).2 0 0 none 0 0 A' (M - N) c').toList
        have hsz := size_setCells W rb 0 (mailC 9 0 0 0 0 false none 0 0 ⟨#[]⟩ none 0 0 l.epoch l.site (lastC (os.take N)).1 (lastC (os.take N)).2 0 0 none 0 0 A' (M - N) c').toList
        have hi' := hi.kept (w' := W.setCells rb 0 (mailC 9 0 0 0 0 false none 0 0 ⟨#[]⟩ none 0 0 l.epoch l.site (lastC (os.take N)).1 (lastC (os.take N)).2 0 0 none 0 0 A' (M - N) c').toList) ⟨by rw [hsz]; exact Nat.le_refl _, fun b h1 h2 => hsv b h2 (by have : w0.heap.size + 1 ≤ b := h1; have := HRB.out; omega)⟩
        refine wp_store_mid 30 (.tmp 4) (.tmp 38) rfl rb 0 (mailC 9 0 0 0 0 false none 0 0 ⟨#[]⟩ none 0 0 l.epoch l.site (lastC (os.take N)).1 (lastC (os.take N)).2 0 0 none 0 0 A' (M - N) c') e4 e38 (hk0.there_ 0 _ (by rw [hs0]; exact Nat.le_refl _)) Try.sizeMail mailC_one ?_
        refine ⟨_, rfl, ⟨A', c', hn, hi'⟩, ⟨?_, by rw [hsz]; exact hGW.2.1, ⟨_, hn, rfl⟩⟩, ⟨hsv, by rw [hsz]; exact Nat.le_refl _⟩, fun _ => ⟨A', c', hn, hi'⟩⟩
        exact hGW.1.setR HRB.out _
      | i + 24 => exact absurd ho (by simp)
  case hend =>
    intro U W hGW hV
    obtain ⟨A', c', hk, hi⟩ : ∃ A' c', Blk W rb 30 (mailC 9 0 0 0 0 false none 0 0 ⟨#[]⟩ none 0 0 l.epoch l.site (lastC (os.take N)).1 (lastC (os.take N)).2 0 0 none 0 0 A' (M - N) c') ∧ OpsIs W (From (w0.heap.size + 1)) A' (M - N) c' ((os.drop N).take (M - N)) := hV 23 (of_decide_eq_true (by kernel_rfl))
    have HK2 := Lib.hid hk
    have HI2 := Lib.hid hi
    have HG := Lib.hid hGW.1.low
    clear hV hGW hk hi
    simp [putU, dstAt, Act.put]
    show (part [1, 1, 1, 1] (codeOf offerF)).wp Try.prog _ _ _
    conv => arg 2; whnf
    refine wp_ret ?_
    refine bodyPost_ret (results_cell rfl rfl HK2.out.range Try.underlying30 rfl Try.sizeMail) rfl ?_
    exact ⟨A', c', rfl, HI2.out.mono fun b _ h => (show w0.heap.size ≤ b from by have : w0.heap.size + 1 ≤ b := h; omega), HG.out⟩

set_option maxRecDepth 100000 in
set_option maxHeartbeats 4000000 in
theorem offerL_any {A : Option Addr} {n cap : Nat} {S : Nat → Prop} (lb : Nat) (l : LaneC) (os : List OpC) (w0 : World) (N M : Nat) (hN : (N : Int) = min l.next n) (hM : M = min n (N + 8)) (hl : LaneIs w0 S lb l) (ho : OpsIs w0 S A n cap os) (hn : n ≤ 4294967296) (hok : ∀ o ∈ os, o.Ok) :
    Calls Try.prog 26 #[.pointer (some ⟨lb, 0, none⟩), .slice A n cap] w0 fun x w' => ∃ A' c', x = .returned (.agg (mailC 9 0 0 0 0 false none 0 0 ⟨#[]⟩ none 0 0 l.epoch l.site (lastC (os.take N)).1 (lastC (os.take N)).2 0 0 none 0 0 A' (M - N) c')) ∧ OpsIs w' (From w0.heap.size) A' (M - N) c' ((os.drop N).take (M - N)) ∧ Below w0.heap.size w0 w' := by
  have hcap : n ≤ cap ∧ cap ≤ maxLen := by obtain ⟨_, _, _, h, h'⟩ := ho; exact ⟨h, h'⟩
  have hl0 : LaneIs w0 (fun b => b < w0.heap.size) lb l := by
    obtain ⟨oA, on, oc, h1, h2⟩ := hl
    exact ⟨oA, on, oc, h1, h2.mono fun b hb _ => hb⟩
  have ho0 : OpsIs w0 (fun b => b < w0.heap.size) A n cap os := ho.mono fun b hb _ => hb
  have hlt := hl.lt
  have HN := Lib.hid hn
  have HB := Lib.hid (show N ≤ n ∧ N ≤ M ∧ n ≤ cap ∧ cap ≤ maxLen from ⟨by omega, by omega, hcap.1, hcap.2⟩)
  have HM := Lib.hid (show M ≤ n by omega)
  have HME := Lib.hid hM
  have HOK := Lib.hid (show ∀ o ∈ (os.drop N).take (M - N), o.Ok from fun o h => hok o (List.mem_of_mem_drop (List.mem_of_mem_take h)))
  have hba : Below w0.heap.size w0 (w0.alloc (.cells noMail 30)) := (Below.refl _ _).alloc (Nat.le_refl _) _
  have HOK4 := Lib.hid (⟨hl0.below hba, ho0.below hba, hba⟩ : Ok4 w0 (w0.alloc (.cells noMail 30)) (fun b => b < w0.heap.size) lb l A n cap os)
  have HMB := Lib.hid (⟨_, Blk.new w0 30 noMail, rfl⟩ : MBlk (w0.alloc (.cells noMail 30)) w0.heap.size)
  have hmin : (if (n : Int) < l.next then (n : Int) else l.next) = (N : Int) := by split <;> omega
  have c7 : (w0.alloc (.cells noMail 30)).cell? ⟨lb, 7, none⟩ = some (.int .i64 l.next) := by
    obtain ⟨oA, on, oc, h1, h2⟩ := hl0.below hba
    exact h1.cell 7
  have HMIN := Lib.hid hmin
  clear hl ho hok hN hM hcap hl0 ho0 hba hmin
  go_enter Try.func26, Try.ntmps26
  conv => arg 2; arg 2; arg 2; change part [1, 1] (codeOf offerF)
  go_wp2_with fail
  obtain ⟨rb, hrb⟩ : ∃ rb, rb = w0.heap.size := ⟨_, rfl⟩
  rw [← hrb] at HMB ⊢
  have HRB := Lib.hid hrb
  clear hrb
  refine wp_two (x := part [1, 1, 0] (codeOf offerF)) (y := part [1, 1, 1] (codeOf offerF)) (by kernel_rfl) ?_
  refine off3 _ _ _ lb rb l ⟨rfl, rfl, rfl, rfl, rfl, trivial⟩ c7 HMIN.out fun a1 hf1 => ?_
  clear c7
  show (part [1, 1, 1] (codeOf offerF)).wp Try.prog _ a1 _
  refine off4 a1 w0 _ lb rb l os N M hf1 HRB.out hlt HN.out HB.out HM.out HME.out HOK.out HOK4.out (by simp) HMB.out
end Go.Proofs.Ytaipgdhdfpemcaa

namespace Go.Proofs.Ytaipgdhdfpemcaa
open Go.RowKit

theorem run_append_zero {P : Program} (w : World) (t ty e : TypeId) (i : TypeInfo) (ht : P.underlying t = some (.slice e)) (hi : P.info? e = some i) (b : Addr) (A : Option Addr) (c : Nat) :
    (Builtin.append_ #[t, t] ty #[.slice (some b) 0 0, .slice A 0 c]).run P w = .ok (.slice (some b) 0 0) w := by
  cases A with
  | none => simp [Builtin.append_, run_underlying ht, sizeOf, typeInfo, hi, Builtin.lenOf, Builtin.firstCells, storeCells]
  | some a =>
    have hl : (loadCells a 0).run P w = .ok #[] w := run_loadCells_list (P := P) w a [] (by intro j v h; simp at h)
    simp [Builtin.append_, run_underlying ht, sizeOf, typeInfo, hi, Builtin.lenOf, Builtin.firstCells, storeCells, hl]
/-- numbers put onto an empty slice: in new memory -/
theorem run_append_ints (ty : TypeId) (w : World) (b0 : Addr) {A : Option Addr} {n c : Nat} {xs : List Int} {S : Nat → Prop} (h : IntIs w S A n c xs) (hn : n * 8 ≤ 140737488351232) :
    ∃ A' c' w', (Builtin.append_ #[27, 27] ty #[.slice (some b0) 0 0, .slice A n c]).run Try.prog w = .ok (.slice A' n c') w' ∧ IntIs w' (From w.heap.size) A' n c' xs ∧ Below w.heap.size w w' := by
  obtain ⟨i0, hi, hz0, hz1, hz2⟩ := info_parts Try.infoInt
  rcases Nat.eq_zero_or_pos n with h0 | h0
  · subst h0
    have hl := h.len
    obtain rfl : xs = [] := List.eq_nil_of_length_eq_zero hl
    exact ⟨some b0, 0, w, run_append_zero w _ ty _ i0 Try.underlying27 hi b0 A c, ⟨Rs.nil_ _ _ _ _, Nat.le_refl _, Nat.zero_le _⟩, Below.refl _ _⟩
  · obtain ⟨ad, rfl, _, _, hcell⟩ := h.1.2 h0
    have hl := h.1.1
    obtain ⟨v', w', hrun, hown, hg⟩ := run_append_arg_grows (w := w) (P := Try.prog) 27 ty 3 i0 _ 1 8 Try.underlying27 hi hz0 hz1 hz2 rfl (by omega) b0 0 0 [] (by simp) (by simp) ad n c (intV .i64 xs) hl hcell (by omega) (by unfold maxLen; omega) (by omega)
    simp only [Nat.zero_add, List.nil_append] at hown
    obtain ⟨A', c', rfl, hc1, hcm, hrd⟩ := own_slice hown
    exact ⟨A', c', w', hrun, ⟨Rs.of hrd fun _ ad e => (hown.lt ad.block (by rw [e]; rfl)).1, hc1, hcm⟩, hg.os, hg.tape, hg.output, hg.size, fun b hb => hg.block b hb (by simp)⟩
theorem wp_append_ints {o : Oper} {a : Act} {w : World} {K : Act → World → Prop} {Q : Exit → Act → World → Prop} (s x : Operand) (ho : o.op = .call { callee := .builtin .append, args := #[s, x], argTypes := #[27, 27] })
    (b0 : Addr) {A : Option Addr} {n c : Nat} {xs : List Int} {S : Nat → Prop} (hs : a.eval s = .slice (some b0) 0 0) (hx : a.eval x = .slice A n c) (h : IntIs w S A n c xs) (hn : n * 8 ≤ 140737488351232)
    (hK : ∀ A' c' w', IntIs w' (From w.heap.size) A' n c' xs → Below w.heap.size w w' → K (a.put o.dst (.slice A' n c')) w') : o.wp Try.prog a w K Q := by
  obtain ⟨A', c', w', hrun, h2, h3⟩ := run_append_ints o.type w b0 h hn
  unfold Oper.wp execOp
  simp only [ho, resolve, invoke, builtin, Sem.run_bind, Sem.run_pure, Result.andThen_ok, List.map_toArray, List.map_cons, List.map_nil, hs, hx, hrun]
  exact hK A' c' w' h2 h3

set_option maxRecDepth 100000 in
set_option maxHeartbeats 4000000 in
theorem rt10 {w0 w : World} {S : Nat → Prop} {rb bx : Nat} {l : LaneC} {m : MailC} {A : Option Addr} {n cap : Nat} {os : List OpC} (Q : Exit → Act → World → Prop) (a : Act) (hL : ¬ S rb) (hU : ∀ b, w0.heap.size ≤ b → S b) (hfr : Fr 117 a [(0, .pointer (some ⟨rb, 0, none⟩)), (2, .slice A n cap), (4, .pointer (some ⟨bx, 0, none⟩))]) (h : Rk w0 w S rb bx l m A n cap os) (hz : m.holes.length * 8 ≤ 140737488351232)
    (hQ : ∀ a' w', Fr 117 a' [(0, .pointer (some ⟨rb, 0, none⟩)), (2, .slice A n cap), (4, .pointer (some ⟨bx, 0, none⟩))] → Rk w0 w' S rb bx { l with wN := m.whN, wE := m.whE, holes := m.holes } m A n cap os → Q .normal a' w') :
    (part [1, 1, 1, 1, 0, 1, 0] (codeOf rtakeF)).wp Try.prog Q a w := by
  have HT := Lib.hid h
  have HQ := Lib.hid hQ
  have HL := Lib.hid hL
  have HU := Lib.hid hU
  clear h hQ hL hU
  obtain ⟨t, df⟩ := a
  obtain ⟨hd, hs, h0, h2, h4, -⟩ := hfr
  simp only at hd hs h0 h2 h4
  subst hd
  rw [eta117 t hs, h0, h2, h4]
  clear hs h0 h2 h4
  conv => arg 2; whnf
  obtain ⟨l1, hl1⟩ : ∃ l1, l1 = ({ l with wN := m.whN, wE := m.whE, holes := m.holes } : LaneC) := ⟨_, rfl⟩
  have HE := Lib.hid hl1
  clear hl1
  obtain ⟨eA, en, ec, hA, hn', hc, oA, on, oc, pA, pn, pc, kb, ko⟩ := HT.out.box
  have hlen := ko.len
  have HN := Lib.hid (show on * 8 ≤ 140737488351232 by omega)
  obtain ⟨cells, hcells⟩ : ∃ cells, cells = mailC m.kind m.term m.index m.prev m.commit m.good eA en ec m.data hA hn' hc m.epoch m.site m.atN m.atE m.whN m.whE oA on oc pA pn pc := ⟨_, rfl⟩
  rw [← hcells] at kb
  have HC := Lib.hid hcells
  have KB := Lib.hid kb
  have KO := Lib.hid ko
  clear hcells kb ko hlen hz
  refine wp_region_all (by kernel_rfl) (fun i v W => match i with | 0 => v = .pointer (some ⟨rb, 0, none⟩) | 1 => v = .pointer (some ⟨bx, 13, none⟩) | 2 => v = .agg #[.int .i64 m.whN, .int .i64 m.whE] | 3 => ∃ b0, v = .slice (some b0) 0 0 | 4 => v = .pointer (some ⟨bx, 15, none⟩) | 5 => v = .slice oA on oc | 6 => ∃ A c, v = .slice A on c ∧ IntIs W S A on c m.holes | 7 => ∃ A c, v = .agg #[.int .i64 m.whN, .int .i64 m.whE, .slice A on c] ∧ IntIs W S A on c m.holes | 8 => v = .pointer (some ⟨rb, 0, none⟩) | 9 => v = .pointer (some ⟨rb, 5, none⟩) | 10 => RefIs W S rb l1 | _ => True) (fun W => Rk2 w0 W S rb bx l l1 m A n cap os ∧ Blk W bx 30 cells ∧ IntIs W S oA on oc m.holes) (fun W W' => Turn rb W W' ∧ (RefIs W S rb l1 → RefIs W' S rb l1)) (by kernel_rfl) ?hG ?hmono ?hstep ?hend
  case hG => exact ⟨HT.out.drew.two, KB.out.drew, KO.out⟩
  case hmono =>
    intro i v W W' hx hv
    match i with
    | 6 =>
      obtain ⟨A', c', rfl, hi⟩ := hv
      exact ⟨A', c', rfl, hi.kept (hx.1.kept HL.out)⟩
    | 7 =>
      obtain ⟨A', c', rfl, hi⟩ := hv
      exact ⟨A', c', rfl, hi.kept (hx.1.kept HL.out)⟩
    | 10 =>
      exact hx.2 hv
    | 0 | 1 | 2 | 3 | 4 | 5 | 8 | 9 => exact hv
    | i + 11 => exact hv
  case hstep =>
    intro i o F U W ho hGW hat hoff hp
    have hrefl := fun W : World => (⟨Turn.refl _ _, fun h => h⟩ : Turn rb W W ∧ (RefIs W S rb l1 → RefIs W S rb l1))
    match i with
      | 0 =>
        injection (show some _ = some o from ho) with ho
        subst ho
        refine on_ (wanted_none rfl) ?_
        have e0 : F.eval (.tmp 0) = .pointer (some ⟨rb, 0, none⟩) := (hoff 0 (of_decide_eq_true (by kernel_rfl))).trans rfl
        exact wp_move' (.tmp 0) rfl ⟨_, rfl, e0, hGW, hrefl W⟩
      | 1 =>
        injection (show some _ = some o from ho) with ho
        subst ho
        refine on_ (wanted_none rfl) ?_
        have e4 : F.eval (.tmp 4) = .pointer (some ⟨bx, 0, none⟩) := (hoff 4 (of_decide_eq_true (by kernel_rfl))).trans rfl
        have t4 := act_tmp e4
        clear hat hoff hp
        exact wp_value' (.pointer (some ⟨bx, 13, none⟩)) W (by unfold execOp; go_simp) ⟨_, rfl, rfl, hGW, hrefl W⟩
      | 2 =>
        injection (show some _ = some o from ho) with ho
        subst ho
        refine on_ (wanted_none rfl) ?_
        have e84 : F.eval (.tmp 84) = .pointer (some ⟨bx, 13, none⟩) := (hat 1 84 (of_decide_eq_true (by kernel_rfl)) rfl).trans (hp ⟨1, .data⟩ (by simp) rfl : U 1 = .pointer (some ⟨bx, 13, none⟩))
        have t84 := act_tmp e84
        clear hat hoff hp
        have d0 := hGW.2.1.cell 13
        have d1 := hGW.2.1.cell 14
        simp [HC.out] at d0 d1
        exact wp_value' (.agg #[.int .i64 m.whN, .int .i64 m.whE]) W (by unfold execOp; go_simp) ⟨_, rfl, rfl, hGW, hrefl W⟩
      | 3 =>
        injection (show some _ = some o from ho) with ho
        subst ho
        refine on_ (wanted_none rfl) ?_
        clear hat hoff hp
        have hb : Below W.heap.size W (W.alloc (.cells #[] 3)) := (Below.refl _ _).alloc (Nat.le_refl _) _
        exact wp_value' (.slice (some ⟨W.heap.size, 0, none⟩) 0 0) (W.alloc (.cells #[] 3)) (by unfold execOp; go_simp) ⟨_, rfl, ⟨_, rfl⟩, ⟨hGW.1.below hb, hGW.2.1.below hb hGW.2.1.lt, hGW.2.2.below hb⟩, Turn.of (Nat.le_of_lt hGW.1.lt) hb, fun h => h.below hb⟩
      | 4 =>
        injection (show some _ = some o from ho) with ho
        subst ho
        refine on_ (wanted_none rfl) ?_
        have e4 : F.eval (.tmp 4) = .pointer (some ⟨bx, 0, none⟩) := (hoff 4 (of_decide_eq_true (by kernel_rfl))).trans rfl
        have t4 := act_tmp e4
        clear hat hoff hp
        exact wp_value' (.pointer (some ⟨bx, 15, none⟩)) W (by unfold execOp; go_simp) ⟨_, rfl, rfl, hGW, hrefl W⟩
      | 5 =>
        injection (show some _ = some o from ho) with ho
        subst ho
        refine on_ (wanted_none rfl) ?_
        have e87 : F.eval (.tmp 87) = .pointer (some ⟨bx, 15, none⟩) := (hat 4 87 (of_decide_eq_true (by kernel_rfl)) rfl).trans (hp ⟨4, .data⟩ (by simp) rfl : U 4 = .pointer (some ⟨bx, 15, none⟩))
        have t87 := act_tmp e87
        clear hat hoff hp
        have d0 := hGW.2.1.cell 15
        simp [HC.out] at d0
        exact wp_value' (.slice oA on oc) W (by unfold execOp; go_simp) ⟨_, rfl, rfl, hGW, hrefl W⟩
      | 6 =>
        injection (show some _ = some o from ho) with ho
        subst ho
        refine on_ (wanted_none rfl) ?_
        have e86 := hat 3 86 (of_decide_eq_true (by kernel_rfl)) rfl
        have v86 := hp ⟨3, .data⟩ (by simp) rfl
        have e88 : F.eval (.tmp 88) = .slice oA on oc := (hat 5 88 (of_decide_eq_true (by kernel_rfl)) rfl).trans (hp ⟨5, .data⟩ (by simp) rfl : U 5 = .slice oA on oc)
        have t88 := act_tmp e88
        clear hat hoff hp
        obtain ⟨b0, h86⟩ := v86
        rw [h86] at e86
        refine wp_append_ints (.tmp 86) (.tmp 88) rfl b0 e86 e88 hGW.2.2 HN.out fun A' c' W' hi hb => ?_
        exact ⟨_, rfl, ⟨A', c', rfl, hi.mono fun b _ h => HU.out b (Nat.le_trans hGW.1.turn.size h)⟩, ⟨hGW.1.below hb, hGW.2.1.below hb hGW.2.1.lt, hGW.2.2.below hb⟩, Turn.of (Nat.le_of_lt hGW.1.lt) hb, fun h => h.below hb⟩
      | 7 =>
        injection (show some _ = some o from ho) with ho
        subst ho
        refine on_ (wanted_none rfl) ?_
        have e85 : F.eval (.tmp 85) = .agg #[.int .i64 m.whN, .int .i64 m.whE] := (hat 2 85 (of_decide_eq_true (by kernel_rfl)) rfl).trans (hp ⟨2, .data⟩ (by simp) rfl : U 2 = .agg #[.int .i64 m.whN, .int .i64 m.whE])
        have t85 := act_tmp e85
        have e89 := hat 6 89 (of_decide_eq_true (by kernel_rfl)) rfl
        have v89 := hp ⟨6, .data⟩ (by simp) rfl
        clear hat hoff hp
        obtain ⟨A', c', h89, hi⟩ := v89
        rw [h89] at e89
        have t89 := act_tmp e89
        exact wp_value' (.agg #[.int .i64 m.whN, .int .i64 m.whE, .slice A' on c']) W (by unfold execOp; go_simp) ⟨_, rfl, ⟨A', c', rfl, hi⟩, hGW, hrefl W⟩
      | 8 =>
        injection (show some _ = some o from ho) with ho
        subst ho
        refine on_ (wanted_none rfl) ?_
        have e83 : F.eval (.tmp 83) = .pointer (some ⟨rb, 0, none⟩) := (hat 0 83 (of_decide_eq_true (by kernel_rfl)) rfl).trans (hp ⟨0, .data⟩ (by simp) rfl : U 0 = .pointer (some ⟨rb, 0, none⟩))
        have t83 := act_tmp e83
        clear hat hoff hp
        exact wp_value' (.pointer (some ⟨rb, 0, none⟩)) W (by unfold execOp; go_simp) ⟨_, rfl, rfl, hGW, hrefl W⟩
      | 9 =>
        injection (show some _ = some o from ho) with ho
        subst ho
        refine on_ (wanted_none rfl) ?_
        have e91 : F.eval (.tmp 91) = .pointer (some ⟨rb, 0, none⟩) := (hat 8 91 (of_decide_eq_true (by kernel_rfl)) rfl).trans (hp ⟨8, .data⟩ (by simp) rfl : U 8 = .pointer (some ⟨rb, 0, none⟩))
        have t91 := act_tmp e91
        clear hat hoff hp
        exact wp_value' (.pointer (some ⟨rb, 5, none⟩)) W (by unfold execOp; go_simp) ⟨_, rfl, rfl, hGW, hrefl W⟩
      | 10 =>
        injection (show some _ = some o from ho) with ho
        subst ho
        refine on_ (wanted_none rfl) ?_
        have e92 : F.eval (.tmp 92) = .pointer (some ⟨rb, 5, none⟩) := (hat 9 92 (of_decide_eq_true (by kernel_rfl)) rfl).trans (hp ⟨9, .data⟩ (by simp) rfl : U 9 = .pointer (some ⟨rb, 5, none⟩))
        have t92 := act_tmp e92
        have e90 := hat 7 90 (of_decide_eq_true (by kernel_rfl)) rfl
        have v90 := hp ⟨7, .data⟩ (by simp) rfl
        clear hat hoff hp
        obtain ⟨A', c', h90, hi⟩ := v90
        rw [h90] at e90
        have ht := setCells_turn rb 5 [.int .i64 m.whN, .int .i64 m.whE, .slice A' on c'] W
        have hi' := hi.kept (ht.kept HL.out)
        have hnew : ∀ l0 : LaneC, l1 = { l0 with wN := m.whN, wE := m.whE, holes := m.holes } → RefIs W S rb l0 → RefIs (W.setCells rb 5 [.int .i64 m.whN, .int .i64 m.whE, .slice A' on c']) S rb l1 := by
          rintro l0 e0 ⟨oA0, on0, oc0, kl, ki⟩
          rw [e0]
          refine ⟨A', on, c', ?_, hi'⟩
          rw [putCells_eq]
          exact ((kl.set_ 5 _).set_ 6 _).set_ 7 _
        have hl : RefIs (W.setCells rb 5 [.int .i64 m.whN, .int .i64 m.whE, .slice A' on c']) S rb l1 := by
          rcases hGW.1.lane with h | h
          · exact hnew l (by rw [HE.out]) h
          · exact hnew l1 (by rw [HE.out]) h
        have hth : W.there rb 5 3 := by
          rcases hGW.1.lane with ⟨oA0, on0, oc0, kl, ki⟩ | ⟨oA0, on0, oc0, kl, ki⟩ <;> exact kl.there_ 5 3 (by show 8 ≤ 8; omega)
        refine wp_store_mid 32 (.tmp 92) (.tmp 90) rfl rb 5 #[.int .i64 m.whN, .int .i64 m.whE, .slice A' on c'] e92 e90 hth Try.sizeReach reachC_one ?_
        exact ⟨_, rfl, hl, ⟨hGW.1.turned HL.out ht hl, ht.blk hGW.2.1 (by rintro rfl; exact HL.out hGW.1.bxS), hGW.2.2.kept (ht.kept HL.out)⟩, ht, fun _ => hl⟩
      | i + 11 => exact absurd ho (by simp)
  case hend =>
    intro U W hGW hV
    have hl1 : RefIs W S rb l1 := hV 10 (of_decide_eq_true (by kernel_rfl))
    have hk := hGW.1.one hl1
    rw [HE.out] at hk
    clear hV hGW hl1
    simp [putU, dstAt, Act.put]
    exact HQ.out _ _ ⟨rfl, rfl, rfl, rfl, rfl, trivial⟩ hk

set_option maxRecDepth 100000 in
set_option maxHeartbeats 4000000 in
theorem rt13 {w0 w : World} {S : Nat → Prop} {rb bx : Nat} {l : LaneC} {m : MailC} {A : Option Addr} {n cap : Nat} {os : List OpC} (R : Ending → World → Prop) (a : Act) (hfr : Fr 117 a [(0, .pointer (some ⟨rb, 0, none⟩)), (2, .slice A n cap), (4, .pointer (some ⟨bx, 0, none⟩))]) (h : Rk w0 w S rb bx l m A n cap os) (hR : R (.returned (.int .i64 m.epoch)) w) :
    (part [1, 1, 1, 1, 1, 1] (codeOf rtakeF)).wp Try.prog (bodyPost Try.prog rtakeF R) a w := by
  have HR := Lib.hid hR
  obtain ⟨eA, en, ec, hA, hn', hc, oA, on, oc, pA, pn, pc, kb, ko⟩ := h.box
  have c9 := kb.cell 9
  simp at c9
  clear kb ko h hR
  obtain ⟨t, df⟩ := a
  obtain ⟨hd, hs, h0, h2, h4, -⟩ := hfr
  simp only at hd hs h0 h2 h4
  subst hd
  rw [eta117 t hs, h0, h2, h4]
  clear hs h0 h2 h4
  conv => arg 2; whnf
  go_wp2_with fail
  exact HR.out

set_option maxRecDepth 100000 in
set_option maxHeartbeats 4000000 in
theorem rt4 {w0 w : World} {S : Nat → Prop} {rb bx : Nat} {l : LaneC} {m : MailC} {A : Option Addr} {n cap : Nat} {os : List OpC} (R : Ending → World → Prop) (a : Act) (hfr : Fr 117 a [(0, .pointer (some ⟨rb, 0, none⟩)), (2, .slice A n cap), (4, .pointer (some ⟨bx, 0, none⟩))]) (h : Rk w0 w S rb bx l m A n cap os) (hR : R (.returned (.int .i64 m.epoch)) w) (Q : Exit → Act → World → Prop) (hq : ∀ a w, bodyPost Try.prog rtakeF R .ret a w → Q .ret a w) :
    (part [1, 1, 0, 1, 0] (codeOf rtakeF)).wp Try.prog Q a w := by
  have HR := Lib.hid hR
  have HQ := Lib.hid hq
  obtain ⟨eA, en, ec, hA, hn', hc, oA, on, oc, pA, pn, pc, kb, ko⟩ := h.box
  have c9 := kb.cell 9
  simp at c9
  clear kb ko h hR hq
  obtain ⟨t, df⟩ := a
  obtain ⟨hd, hs, h0, h2, h4, -⟩ := hfr
  simp only at hd hs h0 h2 h4
  subst hd
  rw [eta117 t hs, h0, h2, h4]
  clear hs h0 h2 h4
  conv => arg 2; whnf
  go_wp2_with fail
  refine HQ.out _ _ (bodyPost_ret (results_tmp rfl _ _ _) rfl ?_)
  exact HR.out

/-- what the reference does with good words -/
theorem good_eq (l : LaneC) (m : MailC) (os : List OpC) : goodS1 l m os = if (decide (0 < m.atN) && hasB os m.atN m.atE) = true then (if l.mN < m.atN then { l with mN := m.atN, mE := m.atE, next := max l.next m.atN } else { l with next := max l.next m.atN }) else l := by
  unfold goodS1 LaneC.further
  split
  · split <;> rfl
  · rfl
set_option maxRecDepth 100000 in
set_option maxHeartbeats 4000000 in
theorem rtake_tail {w0 w : World} {S : Nat → Prop} {rb bx : Nat} {l : LaneC} {m : MailC} {A : Option Addr} {n cap : Nat} {os : List OpC} (R : Ending → World → Prop) (a : Act) (hL : ¬ S rb) (hU : ∀ b, w0.heap.size ≤ b → S b) (hfr : Fr 117 a [(0, .pointer (some ⟨rb, 0, none⟩)), (2, .slice A n cap), (4, .pointer (some ⟨bx, 0, none⟩))]) (h : Rk w0 w S rb bx l m A n cap os) (hn : n ≤ 4294967296) (hz : m.holes.length * 8 ≤ 140737488351232)
    (hR : ∀ w', RefIs w' S rb (rightS l m os) → Turn rb w0 w' → R (.returned (.int .i64 m.epoch)) w') :
    (part [1, 1] (codeOf rtakeF)).wp Try.prog (bodyPost Try.prog rtakeF R) a w := by
  have HR := Lib.hid hR
  clear hR
  have fin : ∀ (a : Act) (w : World) (l' : LaneC), Fr 117 a [(0, .pointer (some ⟨rb, 0, none⟩)), (2, .slice A n cap), (4, .pointer (some ⟨bx, 0, none⟩))] → Rk w0 w S rb bx l' m A n cap os → rightS l m os = l' → (part [1, 1, 1, 1, 1, 1] (codeOf rtakeF)).wp Try.prog (bodyPost Try.prog rtakeF R) a w :=
    fun a w l' hf hk e => rt13 R a hf hk (HR.out w (by rw [e]; exact hk.lane) hk.turn)
  refine wp_two (x := part [1, 1, 0] (codeOf rtakeF)) (y := part [1, 1, 1] (codeOf rtakeF)) (by kernel_rfl) ?_
  refine wp_two (x := part [1, 1, 0, 0] (codeOf rtakeF)) (y := part [1, 1, 0, 1] (codeOf rtakeF)) (by kernel_rfl) ?_
  refine rt3 _ a hL hU hfr h fun a1 w1 hf1 h1 => ?_
  have hF1 : Fr 117 a1 [(0, .pointer (some ⟨rb, 0, none⟩)), (2, .slice A n cap), (4, .pointer (some ⟨bx, 0, none⟩))] := ⟨hf1.1, hf1.2.1, hf1.2.2.1, hf1.2.2.2.1, hf1.2.2.2.2.1, trivial⟩
  show (part [1, 1, 0, 1] (codeOf rtakeF)).wp Try.prog (Exit.then ((part [1, 1, 1] (codeOf rtakeF)).wp Try.prog (bodyPost Try.prog rtakeF R)) (bodyPost Try.prog rtakeF R)) a1 w1
  refine wp_if (x := part [1, 1, 0, 1, 0] (codeOf rtakeF)) (y := part [1, 1, 0, 1, 1] (codeOf rtakeF)) (o := .tmp 21) (by kernel_rfl) (eval_at hf1.2.2.2.2.2.1 rfl) (fun ht => ?_) (fun ht => ?_)
  · refine rt4 R a1 hF1 h1 (HR.out w1 ?_ h1.turn) _ fun _ _ hq => hq
    have e : rightS l m os = l := by
      unfold rightS
      rw [if_neg (by simpa using ht)]
    rw [e]
    exact h1.lane
  have he : m.epoch = l.epoch := by simpa using ht
  refine wp_nop (by kernel_rfl) ?_
  show (part [1, 1, 1] (codeOf rtakeF)).wp Try.prog (bodyPost Try.prog rtakeF R) a1 w1
  refine wp_two (x := part [1, 1, 1, 0] (codeOf rtakeF)) (y := part [1, 1, 1, 1] (codeOf rtakeF)) (by kernel_rfl) ?_
  -- the whole's place, and what stands behind it
  have second : ∀ (l1 : LaneC) (a : Act) (w : World), Fr 117 a [(0, .pointer (some ⟨rb, 0, none⟩)), (2, .slice A n cap), (4, .pointer (some ⟨bx, 0, none⟩))] → Rk w0 w S rb bx l1 m A n cap os → rightS l m os = (if m.good then goodS2 l1 m os else { l1 with next := min l1.next (max l1.mN (Seam.upTo (os.map (·.epoch)) m.atN m.atE : Int)) }) →
      (part [1, 1, 1, 1] (codeOf rtakeF)).wp Try.prog (bodyPost Try.prog rtakeF R) a w := by
    intro l1 a w hf hk e
    have third : ∀ (l2 : LaneC) (a : Act) (w : World), Fr 117 a [(0, .pointer (some ⟨rb, 0, none⟩)), (2, .slice A n cap), (4, .pointer (some ⟨bx, 0, none⟩))] → Rk w0 w S rb bx l2 m A n cap os → (m.good = true → rightS l m os = l2) → (m.good = false → rightS l m os = { l2 with next := min l2.next (max l2.mN (Seam.upTo (os.map (·.epoch)) m.atN m.atE : Int)) }) →
        (part [1, 1, 1, 1, 1] (codeOf rtakeF)).wp Try.prog (bodyPost Try.prog rtakeF R) a w := by
      intro l2 a w hf hk eg en
      refine wp_two (x := part [1, 1, 1, 1, 1, 0] (codeOf rtakeF)) (y := part [1, 1, 1, 1, 1, 1] (codeOf rtakeF)) (by kernel_rfl) ?_
      refine wp_two (x := part [1, 1, 1, 1, 1, 0, 0] (codeOf rtakeF)) (y := part [1, 1, 1, 1, 1, 0, 1] (codeOf rtakeF)) (by kernel_rfl) ?_
      refine rt11 _ a hL hU hf hk fun a3 w3 hf3 h3 => ?_
      have hF3 : Fr 117 a3 [(0, .pointer (some ⟨rb, 0, none⟩)), (2, .slice A n cap), (4, .pointer (some ⟨bx, 0, none⟩))] := ⟨hf3.1, hf3.2.1, hf3.2.2.1, hf3.2.2.2.1, hf3.2.2.2.2.1, trivial⟩
      show (part [1, 1, 1, 1, 1, 0, 1] (codeOf rtakeF)).wp Try.prog (Exit.then ((part [1, 1, 1, 1, 1, 1] (codeOf rtakeF)).wp Try.prog (bodyPost Try.prog rtakeF R)) (bodyPost Try.prog rtakeF R)) a3 w3
      refine wp_if (x := part [1, 1, 1, 1, 1, 0, 1, 0] (codeOf rtakeF)) (y := part [1, 1, 1, 1, 1, 0, 1, 1] (codeOf rtakeF)) (o := .tmp 95) (by kernel_rfl) (eval_at hf3.2.2.2.2.2.1 rfl) (fun hg => ?_) (fun hg => ?_)
      · refine rt12 _ a3 hL hU hF3 h3 hn fun a4 w4 hf4 h4 => ?_
        exact fin a4 w4 _ hf4 h4 (en (by simpa using hg))
      · refine wp_nop (by kernel_rfl) ?_
        exact fin a3 w3 _ hF3 h3 (eg (by simpa using hg))
    refine wp_two (x := part [1, 1, 1, 1, 0] (codeOf rtakeF)) (y := part [1, 1, 1, 1, 1] (codeOf rtakeF)) (by kernel_rfl) ?_
    refine wp_two (x := part [1, 1, 1, 1, 0, 0] (codeOf rtakeF)) (y := part [1, 1, 1, 1, 0, 1] (codeOf rtakeF)) (by kernel_rfl) ?_
    refine rt9 _ a hL hU hf hk hn fun a3 w3 hf3 h3 => ?_
    have hF3 : Fr 117 a3 [(0, .pointer (some ⟨rb, 0, none⟩)), (2, .slice A n cap), (4, .pointer (some ⟨bx, 0, none⟩))] := ⟨hf3.1, hf3.2.1, hf3.2.2.1, hf3.2.2.2.1, hf3.2.2.2.2.1, trivial⟩
    show (part [1, 1, 1, 1, 0, 1] (codeOf rtakeF)).wp Try.prog (Exit.then ((part [1, 1, 1, 1, 1] (codeOf rtakeF)).wp Try.prog (bodyPost Try.prog rtakeF R)) (bodyPost Try.prog rtakeF R)) a3 w3
    refine wp_if (x := part [1, 1, 1, 1, 0, 1, 0] (codeOf rtakeF)) (y := part [1, 1, 1, 1, 0, 1, 1] (codeOf rtakeF)) (o := .tmp 82) (by kernel_rfl) (eval_at hf3.2.2.2.2.2.1 rfl) (fun hg => ?_) (fun hg => ?_)
    · rw [Bool.and_eq_true] at hg
      refine rt10 _ a3 hL hU hF3 h3 hz fun a4 w4 hf4 h4 => ?_
      refine third _ a4 w4 hf4 h4 (fun g => ?_) (fun g => by rw [hg.1] at g; cases g)
      rw [e, if_pos g]
      unfold goodS2
      rw [if_pos hg.2]
    · refine wp_nop (by kernel_rfl) ?_
      refine third l1 a3 w3 hF3 h3 (fun g => ?_) (fun g => by rw [e, if_neg (by rw [g]; exact Bool.false_ne_true)])
      rw [g, Bool.true_and] at hg
      rw [e, if_pos g]
      unfold goodS2
      rw [if_neg (by rw [hg]; exact Bool.false_ne_true)]
  refine wp_two (x := part [1, 1, 1, 0, 0] (codeOf rtakeF)) (y := part [1, 1, 1, 0, 1] (codeOf rtakeF)) (by kernel_rfl) ?_
  refine rt5 _ a1 hL hU hF1 h1 hn fun a2 w2 hf2 h2 => ?_
  have hF2 : Fr 117 a2 [(0, .pointer (some ⟨rb, 0, none⟩)), (2, .slice A n cap), (4, .pointer (some ⟨bx, 0, none⟩))] := ⟨hf2.1, hf2.2.1, hf2.2.2.1, hf2.2.2.2.1, hf2.2.2.2.2.1, trivial⟩
  show (part [1, 1, 1, 0, 1] (codeOf rtakeF)).wp Try.prog (Exit.then ((part [1, 1, 1, 1] (codeOf rtakeF)).wp Try.prog (bodyPost Try.prog rtakeF R)) (bodyPost Try.prog rtakeF R)) a2 w2
  have ebad : m.good = false → rightS l m os = { l with next := min l.next (max l.mN (Seam.upTo (os.map (·.epoch)) m.atN m.atE : Int)) } := fun g => by
    unfold rightS
    rw [if_pos he, if_neg (by rw [g]; exact Bool.false_ne_true)]
  have egood : m.good = true → rightS l m os = goodS2 (goodS1 l m os) m os := fun g => by
    unfold rightS goodS
    rw [if_pos he, if_pos g]
  refine wp_if (x := part [1, 1, 1, 0, 1, 0] (codeOf rtakeF)) (y := part [1, 1, 1, 0, 1, 1] (codeOf rtakeF)) (o := .tmp 37) (by kernel_rfl) (eval_at hf2.2.2.2.2.2.1 rfl) (fun hg => ?_) (fun hg => ?_)
  · rw [Bool.and_eq_true] at hg
    have e1 : ∀ l1, goodS1 l m os = l1 → rightS l m os = (if m.good then goodS2 l1 m os else { l1 with next := min l1.next (max l1.mN (Seam.upTo (os.map (·.epoch)) m.atN m.atE : Int)) }) := fun l1 e => by
      rw [egood hg.1, e, if_pos hg.1]
    refine wp_two (x := part [1, 1, 1, 0, 1, 0, 0] (codeOf rtakeF)) (y := part [1, 1, 1, 0, 1, 0, 1] (codeOf rtakeF)) (by kernel_rfl) ?_
    refine wp_two (x := part [1, 1, 1, 0, 1, 0, 0, 0] (codeOf rtakeF)) (y := part [1, 1, 1, 0, 1, 0, 0, 1] (codeOf rtakeF)) (by kernel_rfl) ?_
    refine rt6 _ a2 hL hU hF2 h2 fun a3 w3 hf3 h3 => ?_
    have hF3 : Fr 117 a3 [(0, .pointer (some ⟨rb, 0, none⟩)), (2, .slice A n cap), (4, .pointer (some ⟨bx, 0, none⟩))] := ⟨hf3.1, hf3.2.1, hf3.2.2.1, hf3.2.2.2.1, hf3.2.2.2.2.1, trivial⟩
    show (part [1, 1, 1, 0, 1, 0, 0, 1] (codeOf rtakeF)).wp Try.prog (Exit.then ((part [1, 1, 1, 0, 1, 0, 1] (codeOf rtakeF)).wp Try.prog (Exit.then ((part [1, 1, 1, 1] (codeOf rtakeF)).wp Try.prog (bodyPost Try.prog rtakeF R)) (bodyPost Try.prog rtakeF R))) (Exit.then ((part [1, 1, 1, 1] (codeOf rtakeF)).wp Try.prog (bodyPost Try.prog rtakeF R)) (bodyPost Try.prog rtakeF R))) a3 w3
    refine wp_if (x := part [1, 1, 1, 0, 1, 0, 0, 1, 0] (codeOf rtakeF)) (y := part [1, 1, 1, 0, 1, 0, 0, 1, 1] (codeOf rtakeF)) (o := .tmp 46) (by kernel_rfl) (eval_at hf3.2.2.2.2.2.1 rfl) (fun hm => ?_) (fun hm => ?_)
    · refine rt7 _ a3 hL hU hF3 h3 fun a4 w4 hf4 h4 => ?_
      show (part [1, 1, 1, 0, 1, 0, 1] (codeOf rtakeF)).wp Try.prog (Exit.then ((part [1, 1, 1, 1] (codeOf rtakeF)).wp Try.prog (bodyPost Try.prog rtakeF R)) (bodyPost Try.prog rtakeF R)) a4 w4
      refine rt8 _ a4 hL hU hf4 h4 fun a5 w5 hf5 h5 => ?_
      refine second _ a5 w5 hf5 h5 (e1 _ ?_)
      rw [good_eq, if_pos hg.2, if_pos (of_decide_eq_true hm)]
    · refine wp_nop (by kernel_rfl) ?_
      show (part [1, 1, 1, 0, 1, 0, 1] (codeOf rtakeF)).wp Try.prog (Exit.then ((part [1, 1, 1, 1] (codeOf rtakeF)).wp Try.prog (bodyPost Try.prog rtakeF R)) (bodyPost Try.prog rtakeF R)) a3 w3
      refine rt8 _ a3 hL hU hF3 h3 fun a5 w5 hf5 h5 => ?_
      refine second _ a5 w5 hf5 h5 (e1 _ ?_)
      rw [good_eq, if_pos hg.2, if_neg (of_decide_eq_false hm)]
  · refine wp_nop (by kernel_rfl) ?_
    refine second l a2 w2 hF2 h2 ?_
    cases hgd : m.good with
    | true =>
      rw [hgd, Bool.true_and] at hg
      rw [if_pos rfl, egood hgd, good_eq, if_neg (by rw [hg]; exact Bool.false_ne_true)]
    | false =>
      rw [if_neg Bool.false_ne_true, ebad hgd]
end Go.Proofs.Ytaipgdhdfpemcaa

namespace Go.Proofs.Ytaipgdhdfpemcaa
open Go.RowKit

theorem right10_eq (m : MailC) : m.right10 = (c32 m.term m.index m.prev m.commit m.ents.length m.data m.hs.length m.site m.ops.length && (c34 m.epoch m.atN m.atE m.whN m.whE && (riseB m.whN 0 m.holes && decide (1 ≤ m.epoch)))) := by
  unfold MailC.right10 pre1 chk8 c32 c34
  obtain ⟨b1, h1⟩ : ∃ b, b = placeB m.atN m.atE := ⟨_, rfl⟩
  obtain ⟨b2, h2⟩ : ∃ b, b = placeB m.whN m.whE := ⟨_, rfl⟩
  obtain ⟨b3, h3⟩ : ∃ b, b = riseB m.whN 0 m.holes := ⟨_, rfl⟩
  rw [← h1, ← h2, ← h3]
  clear h1 h2 h3
  rw [Bool.eq_iff_iff]
  simp only [Bool.and_eq_true, decide_eq_true_eq, Bool.not_eq_true', bne_self_eq_false, Bool.and_false]
  constructor
  · rintro ⟨⟨h1, h2, h3, h4, h5⟩, ⟨_, ⟨h6, h7⟩, h8, h9, _⟩, h10, h11, h12, h13⟩
    refine ⟨⟨⟨⟨⟨⟨⟨⟨⟨h1, h2⟩, h3⟩, h4⟩, h5⟩, ?_⟩, ?_⟩, h11⟩, ?_⟩, ⟨⟨⟨h6, h7⟩, h8⟩, h9⟩, h13, ?_⟩ <;> omega
  · rintro ⟨⟨⟨⟨⟨⟨⟨⟨⟨h1, h2⟩, h3⟩, h4⟩, h5⟩, h6⟩, h7⟩, h8⟩, h9⟩, ⟨⟨⟨h10, h11⟩, h12⟩, h13⟩, h14, h15⟩
    refine ⟨⟨h1, h2, h3, h4, h5⟩, ⟨⟨?_, ?_⟩, ⟨h10, h11⟩, h12, h13, ?_⟩, ?_, h8, ?_, h14⟩ <;> first | rfl | omega | simp

set_option maxRecDepth 100000 in
set_option maxHeartbeats 4000000 in
theorem rightNo1 (w : World) (R : Ending → World → Prop) (Q : Exit → Act → World → Prop) (a : Act) (mb : Nat) (hfr : Fr 391 a [(1, .pointer (some ⟨mb, 0, none⟩))]) (hR : R (.returned (.bool false)) w) (hq : ∀ a w, bodyPost Try.prog rightF R .ret a w → Q .ret a w) :
    (part [1, 1, 1, 1, 1, 0, 1, 0] (codeOf rightF)).wp Try.prog Q a w := by
  have HR := Lib.hid hR
  have HQ := Lib.hid hq
  clear hR hq
  obtain ⟨t, df⟩ := a
  obtain ⟨hd, hs, h1, -⟩ := hfr
  simp only at hd hs h1
  subst hd
  rw [eta391 t hs, h1]
  clear hs h1
  conv => arg 2; whnf
  go_wp2_with fail
  refine HQ.out _ _ (bodyPost_ret (results_tmp rfl _ _ _) rfl ?_)
  exact HR.out

set_option maxRecDepth 100000 in
set_option maxHeartbeats 4000000 in
theorem rightNo2 (w : World) (R : Ending → World → Prop) (Q : Exit → Act → World → Prop) (a : Act) (mb : Nat) (hfr : Fr 391 a [(1, .pointer (some ⟨mb, 0, none⟩))]) (hR : R (.returned (.bool false)) w) (hq : ∀ a w, bodyPost Try.prog rightF R .ret a w → Q .ret a w) :
    (part [1, 1, 1, 1, 1, 1, 0, 1, 0] (codeOf rightF)).wp Try.prog Q a w := by
  have HR := Lib.hid hR
  have HQ := Lib.hid hq
  clear hR hq
  obtain ⟨t, df⟩ := a
  obtain ⟨hd, hs, h1, -⟩ := hfr
  simp only at hd hs h1
  subst hd
  rw [eta391 t hs, h1]
  clear hs h1
  conv => arg 2; whnf
  go_wp2_with fail
  refine HQ.out _ _ (bodyPost_ret (results_tmp rfl _ _ _) rfl ?_)
  exact HR.out

set_option maxRecDepth 100000 in
set_option maxHeartbeats 4000000 in
theorem rightNo3 (w : World) (R : Ending → World → Prop) (Q : Exit → Act → World → Prop) (a : Act) (mb : Nat) (hfr : Fr 391 a [(1, .pointer (some ⟨mb, 0, none⟩))]) (hR : R (.returned (.bool false)) w) (hq : ∀ a w, bodyPost Try.prog rightF R .ret a w → Q .ret a w) :
    (part [1, 1, 1, 1, 1, 1, 1, 0, 1, 0] (codeOf rightF)).wp Try.prog Q a w := by
  have HR := Lib.hid hR
  have HQ := Lib.hid hq
  clear hR hq
  obtain ⟨t, df⟩ := a
  obtain ⟨hd, hs, h1, -⟩ := hfr
  simp only at hd hs h1
  subst hd
  rw [eta391 t hs, h1]
  clear hs h1
  conv => arg 2; whnf
  go_wp2_with fail
  refine HQ.out _ _ (bodyPost_ret (results_tmp rfl _ _ _) rfl ?_)
  exact HR.out

set_option maxRecDepth 100000 in
set_option maxHeartbeats 4000000 in
theorem right27 (w : World) (Q : Exit → Act → World → Prop) (a : Act) (mb : Nat) (hfr : Fr 391 a [(1, .pointer (some ⟨mb, 0, none⟩)), (3, .string ⟨#[69, 103, 97, 119, 72]⟩)])
    (hQ : ∀ a', Fr 391 a' [(1, .pointer (some ⟨mb, 0, none⟩)), (3, .string ⟨#[69, 103, 97, 119, 72]⟩), (4, .map (some w.heap.size))] → Q .normal a' (w.alloc (.map #[] 0))) :
    (part [1, 1, 1, 0] (codeOf rightF)).wp Try.prog Q a w := by
  have HQ := Lib.hid hQ
  clear hQ
  obtain ⟨t, df⟩ := a
  obtain ⟨hd, hs, h1, h3, -⟩ := hfr
  simp only at hd hs h1 h3
  subst hd
  rw [eta391 t hs, h1, h3]
  clear hs h1 h3
  conv => arg 2; whnf
  go_wp2_with fail
  rw [run_makeMap_plain]
  go_wp2_with fail
  exact HQ.out _ ⟨rfl, rfl, rfl, rfl, rfl, trivial⟩
set_option maxRecDepth 100000 in
set_option maxHeartbeats 4000000 in
theorem right38 (w : World) (Q : Exit → Act → World → Prop) (a : Act) (mb : Nat) {good : Bool} {eA : Option Addr} {ec : Nat} {data : ByteArray} {hA : Option Addr} {hc : Nat} {epoch atN atE whN whE : Int} {oA : Option Addr} {on oc : Nat} {pA : Option Addr} {pc : Nat} (hfr : Fr 391 a [(1, .pointer (some ⟨mb, 0, none⟩))]) (hm : Blk w mb 30 (mailC 10 0 0 0 0 good eA 0 ec data hA 0 hc epoch 0 atN atE whN whE oA on oc pA 0 pc))
    (hQ : ∀ a', Fr 391 a' [(1, .pointer (some ⟨mb, 0, none⟩))] → Q .normal a' w) : (part [1, 1, 1, 1, 1, 1, 1, 1, 0] (codeOf rightF)).wp Try.prog Q a w := by
  have HQ := Lib.hid hQ
  have d := hm.cell 6
  simp at d
  clear hQ hm
  obtain ⟨t, df⟩ := a
  obtain ⟨hd, hs, h1, -⟩ := hfr
  simp only at hd hs h1
  subst hd
  rw [eta391 t hs, h1]
  clear hs h1
  conv => arg 2; whnf
  go_wp2_with fail
  go_loopw [6] (fun i wr => i = .int .i64 0 ∧ wr = w) (fun _ _ => 0)
  case atStart => exact ⟨rfl, rfl⟩
  case round =>
    obtain ⟨rfl, rfl⟩ := hrel
    go_wp2_with fail
    exact HQ.out _ ⟨rfl, rfl, rfl, trivial⟩
set_option maxRecDepth 100000 in
set_option maxHeartbeats 4000000 in
theorem right43 (w : World) (Q : Exit → Act → World → Prop) (a : Act) (mb : Nat) {good : Bool} {eA : Option Addr} {ec : Nat} {data : ByteArray} {hA : Option Addr} {hc : Nat} {epoch atN atE whN whE : Int} {oA : Option Addr} {on oc : Nat} {pA : Option Addr} {pc : Nat} (hfr : Fr 391 a [(1, .pointer (some ⟨mb, 0, none⟩))]) (hm : Blk w mb 30 (mailC 10 0 0 0 0 good eA 0 ec data hA 0 hc epoch 0 atN atE whN whE oA on oc pA 0 pc))
    (hQ : ∀ a', Fr 391 a' [(1, .pointer (some ⟨mb, 0, none⟩))] → Q .normal a' w) : (part [1, 1, 1, 1, 1, 1, 1, 1, 1, 0] (codeOf rightF)).wp Try.prog Q a w := by
  have HQ := Lib.hid hQ
  have d := hm.cell 8
  simp at d
  clear hQ hm
  obtain ⟨t, df⟩ := a
  obtain ⟨hd, hs, h1, -⟩ := hfr
  simp only at hd hs h1
  subst hd
  rw [eta391 t hs, h1]
  clear hs h1
  conv => arg 2; whnf
  go_wp2_with fail
  go_loopw [7] (fun i wr => i = .int .i64 0 ∧ wr = w) (fun _ _ => 0)
  case atStart => exact ⟨rfl, rfl⟩
  case round =>
    obtain ⟨rfl, rfl⟩ := hrel
    go_wp2_with fail
    exact HQ.out _ ⟨rfl, rfl, rfl, trivial⟩
set_option maxRecDepth 100000 in
set_option maxHeartbeats 4000000 in
theorem right48 (w : World) (R : Ending → World → Prop) (Q : Exit → Act → World → Prop) (a : Act) (mb : Nat) {good : Bool} {eA : Option Addr} {ec : Nat} {data : ByteArray} {hA : Option Addr} {hc : Nat} {epoch atN atE whN whE : Int} {oA : Option Addr} {on oc : Nat} {pA : Option Addr} {pc : Nat} (hfr : Fr 391 a [(1, .pointer (some ⟨mb, 0, none⟩))]) (hm : Blk w mb 30 (mailC 10 0 0 0 0 good eA 0 ec data hA 0 hc epoch 0 atN atE whN whE oA on oc pA 0 pc))
    (hR : R (.returned (.bool (decide (1 ≤ epoch)))) w) (hq : ∀ a w, bodyPost Try.prog rightF R .ret a w → Q .ret a w) : (part [1, 1, 1, 1, 1, 1, 1, 1, 1, 1, 0] (codeOf rightF)).wp Try.prog Q a w := by
  have HR := Lib.hid hR
  have HQ := Lib.hid hq
  have d := hm.cell 0
  have d9 := hm.cell 9
  simp at d d9
  clear hR hq hm
  obtain ⟨t, df⟩ := a
  obtain ⟨hd, hs, h1, -⟩ := hfr
  simp only at hd hs h1
  subst hd
  rw [eta391 t hs, h1]
  clear hs h1
  conv => arg 2; whnf
  go_wp2_with fail
  refine HQ.out _ _ (bodyPost_ret (results_tmp rfl _ _ _) rfl ?_)
  exact HR.out

set_option maxRecDepth 100000 in
set_option maxHeartbeats 4000000 in
theorem right_tail0 (w0 w : World) (b : Bool) (a : Act) (mb g : Nat) {good : Bool} {eA : Option Addr} {ec : Nat} {data : ByteArray} {hA : Option Addr} {hc : Nat} {epoch atN atE whN whE : Int} {oA : Option Addr} {on oc : Nat} {pA : Option Addr} {pc : Nat} (holes : List Int) {S : Nat → Prop} (hfr : Fr 391 a [(1, .pointer (some ⟨mb, 0, none⟩)), (4, .map (some g))]) (hn : NamedIs w g [72, 119, 97, 103, 69])
    (hm : Blk w mb 30 (mailC 10 0 0 0 0 good eA 0 ec data hA 0 hc epoch 0 atN atE whN whE oA on oc pA 0 pc)) (ho : IntIs w S oA on oc holes) (hz : on ≤ 140737488351232) (hb : Below w0.heap.size w0 w)
    (hres : b = (c34 epoch atN atE whN whE && (riseB whN 0 holes && decide (1 ≤ epoch)))) :
    (part [1, 1, 1, 1, 1, 1] (codeOf rightF)).wp Try.prog (bodyPost Try.prog rightF fun e w' => e = .returned (.bool b) ∧ Below w0.heap.size w0 w') a w := by
  refine wp_two (x := part [1, 1, 1, 1, 1, 1, 0] (codeOf rightF)) (y := part [1, 1, 1, 1, 1, 1, 1] (codeOf rightF)) (by kernel_rfl) ?_
  refine wp_two (x := part [1, 1, 1, 1, 1, 1, 0, 0] (codeOf rightF)) (y := part [1, 1, 1, 1, 1, 1, 0, 1] (codeOf rightF)) (by kernel_rfl) ?_
  refine right34 w _ a mb g hfr hn hm fun a1 w1 f1 m1 b1 => ?_
  have hF1 : Fr 391 a1 [(1, .pointer (some ⟨mb, 0, none⟩))] := ⟨f1.1, f1.2.1, f1.2.2.1, trivial⟩
  have hb1 := hb.trans (b1.mono hb.size)
  show (part [1, 1, 1, 1, 1, 1, 0, 1] (codeOf rightF)).wp Try.prog (Exit.then ((part [1, 1, 1, 1, 1, 1, 1] (codeOf rightF)).wp Try.prog (bodyPost Try.prog rightF fun e w' => e = .returned (.bool b) ∧ Below w0.heap.size w0 w')) (bodyPost Try.prog rightF fun e w' => e = .returned (.bool b) ∧ Below w0.heap.size w0 w')) a1 w1
  refine wp_if (x := part [1, 1, 1, 1, 1, 1, 0, 1, 0] (codeOf rightF)) (y := part [1, 1, 1, 1, 1, 1, 0, 1, 1] (codeOf rightF)) (o := .tmp 260) (by kernel_rfl) (eval_at f1.2.2.2.1 rfl) (fun ht => ?_) (fun ht => ?_)
  · have hc : c34 epoch atN atE whN whE = false := by simpa using ht
    exact rightNo2 w1 (fun e w' => e = .returned (.bool b) ∧ Below w0.heap.size w0 w') _ a1 mb hF1 ⟨by rw [hres, hc]; rfl, hb1⟩ fun _ _ hq => hq
  have hc34 : c34 epoch atN atE whN whE = true := by simpa using ht
  refine wp_nop (by kernel_rfl) ?_
  show (part [1, 1, 1, 1, 1, 1, 1] (codeOf rightF)).wp Try.prog (bodyPost Try.prog rightF fun e w' => e = .returned (.bool b) ∧ Below w0.heap.size w0 w') a1 w1
  refine wp_two (x := part [1, 1, 1, 1, 1, 1, 1, 0] (codeOf rightF)) (y := part [1, 1, 1, 1, 1, 1, 1, 1] (codeOf rightF)) (by kernel_rfl) ?_
  refine wp_two (x := part [1, 1, 1, 1, 1, 1, 1, 0, 0] (codeOf rightF)) (y := part [1, 1, 1, 1, 1, 1, 1, 0, 1] (codeOf rightF)) (by kernel_rfl) ?_
  refine right36 w1 _ a1 mb holes hF1 m1 (ho.below b1) hz fun a2 w2 f2 m2 b2 => ?_
  have hF2 : Fr 391 a2 [(1, .pointer (some ⟨mb, 0, none⟩))] := ⟨f2.1, f2.2.1, f2.2.2.1, trivial⟩
  have hb2 := hb1.trans (b2.mono hb1.size)
  show (part [1, 1, 1, 1, 1, 1, 1, 0, 1] (codeOf rightF)).wp Try.prog (Exit.then ((part [1, 1, 1, 1, 1, 1, 1, 1] (codeOf rightF)).wp Try.prog (bodyPost Try.prog rightF fun e w' => e = .returned (.bool b) ∧ Below w0.heap.size w0 w')) (bodyPost Try.prog rightF fun e w' => e = .returned (.bool b) ∧ Below w0.heap.size w0 w')) a2 w2
  refine wp_if (x := part [1, 1, 1, 1, 1, 1, 1, 0, 1, 0] (codeOf rightF)) (y := part [1, 1, 1, 1, 1, 1, 1, 0, 1, 1] (codeOf rightF)) (o := .tmp 292) (by kernel_rfl) (eval_at f2.2.2.2.1 rfl) (fun ht => ?_) (fun ht => ?_)
  · have hc : riseB whN 0 holes = false := by simpa using ht
    exact rightNo3 w2 (fun e w' => e = .returned (.bool b) ∧ Below w0.heap.size w0 w') _ a2 mb hF2 ⟨by rw [hres, hc34, hc]; rfl, hb2⟩ fun _ _ hq => hq
  have hris : riseB whN 0 holes = true := by simpa using ht
  refine wp_nop (by kernel_rfl) ?_
  show (part [1, 1, 1, 1, 1, 1, 1, 1] (codeOf rightF)).wp Try.prog (bodyPost Try.prog rightF fun e w' => e = .returned (.bool b) ∧ Below w0.heap.size w0 w') a2 w2
  refine wp_two (x := part [1, 1, 1, 1, 1, 1, 1, 1, 0] (codeOf rightF)) (y := part [1, 1, 1, 1, 1, 1, 1, 1, 1] (codeOf rightF)) (by kernel_rfl) ?_
  refine right38 w2 _ a2 mb hF2 m2 fun a3 f3 => ?_
  show (part [1, 1, 1, 1, 1, 1, 1, 1, 1] (codeOf rightF)).wp Try.prog (bodyPost Try.prog rightF fun e w' => e = .returned (.bool b) ∧ Below w0.heap.size w0 w') a3 w2
  refine wp_two (x := part [1, 1, 1, 1, 1, 1, 1, 1, 1, 0] (codeOf rightF)) (y := part [1, 1, 1, 1, 1, 1, 1, 1, 1, 1] (codeOf rightF)) (by kernel_rfl) ?_
  refine right43 w2 _ a3 mb f3 m2 fun a4 f4 => ?_
  show (part [1, 1, 1, 1, 1, 1, 1, 1, 1, 1] (codeOf rightF)).wp Try.prog (bodyPost Try.prog rightF fun e w' => e = .returned (.bool b) ∧ Below w0.heap.size w0 w') a4 w2
  refine wp_two (x := part [1, 1, 1, 1, 1, 1, 1, 1, 1, 1, 0] (codeOf rightF)) (y := part [1, 1, 1, 1, 1, 1, 1, 1, 1, 1, 1] (codeOf rightF)) (by kernel_rfl) ?_
  exact right48 w2 (fun e w' => e = .returned (.bool b) ∧ Below w0.heap.size w0 w') _ a4 mb f4 m2 ⟨by rw [hres, hc34, hris]; rfl, hb2⟩ fun _ _ hq => hq

set_option maxRecDepth 100000 in
set_option maxHeartbeats 4000000 in
theorem right_tail (w0 w : World) (m : MailC) (cells : Array Value) (a : Act) (mb : Nat) {S : Nat → Prop} (hfr : Fr 391 a [(1, .pointer (some ⟨mb, 0, none⟩)), (3, .string ⟨#[69, 103, 97, 119, 72]⟩)]) (hk : m.kind = 10)
    (hm : Blk w mb 30 cells) (hs : MailIs w S cells m) (hok : m.Ok) (hb : Below w0.heap.size w0 w) :
    (part [1, 1, 1] (codeOf rightF)).wp Try.prog (bodyPost Try.prog rightF fun e w' => e = .returned (.bool m.right10) ∧ Below w0.heap.size w0 w') a w := by
  obtain ⟨kind, term, index, prev, commit, good, ents, data, hs', epoch, site, atN, atE, whN, whE, holes, ops⟩ := m
  simp only at hk
  subst hk
  have hres := right10_eq ⟨10, term, index, prev, commit, good, ents, data, hs', epoch, site, atN, atE, whN, whE, holes, ops⟩
  simp only at hres
  obtain ⟨eA, en, ec, hA, hn, hc, oA, on, oc, pA, pn, pc, rfl, h1, h2, h3, h4⟩ := hs
  have l1 := h1.len
  have l2 := h2.len
  have l3 := h3.len
  have l4 := h4.len
  have hz : on ≤ 140737488351232 := by have := hok.holes; simp only at this; rw [l3] at this; omega
  rw [l1, l2, l4] at hres
  simp only at h3 hm
  clear h1 h2 h4 hok l1 l2 l3 l4
  obtain ⟨r, hr⟩ : ∃ r, r = (⟨10, term, index, prev, commit, good, ents, data, hs', epoch, site, atN, atE, whN, whE, holes, ops⟩ : MailC).right10 := ⟨_, rfl⟩
  rw [← hr] at hres ⊢
  clear hr
  refine wp_two (x := part [1, 1, 1, 0] (codeOf rightF)) (y := part [1, 1, 1, 1] (codeOf rightF)) (by kernel_rfl) ?_
  refine right27 w _ a mb hfr fun a1 f1 => ?_
  have hba : Below w.heap.size w (w.alloc (.map #[] 0)) := (Below.refl _ _).alloc (Nat.le_refl _) _
  show (part [1, 1, 1, 1] (codeOf rightF)).wp Try.prog (bodyPost Try.prog rightF fun e w' => e = .returned (.bool r) ∧ Below w0.heap.size w0 w') a1 (w.alloc (.map #[] 0))
  refine wp_two (x := part [1, 1, 1, 1, 0] (codeOf rightF)) (y := part [1, 1, 1, 1, 1] (codeOf rightF)) (by kernel_rfl) ?_
  refine right28 _ _ a1 mb w.heap.size f1 (World.ownsMap_made w _ _ _) fun a2 w2 f2 n2 b2 => ?_
  have hb2 : Below w.heap.size w w2 := hba.trans b2
  have m2 := hm.below hb2 hm.lt
  have hbb := hb.trans (hb2.mono hb.size)
  show (part [1, 1, 1, 1, 1] (codeOf rightF)).wp Try.prog (bodyPost Try.prog rightF fun e w' => e = .returned (.bool r) ∧ Below w0.heap.size w0 w') a2 w2
  refine wp_two (x := part [1, 1, 1, 1, 1, 0] (codeOf rightF)) (y := part [1, 1, 1, 1, 1, 1] (codeOf rightF)) (by kernel_rfl) ?_
  refine wp_two (x := part [1, 1, 1, 1, 1, 0, 0] (codeOf rightF)) (y := part [1, 1, 1, 1, 1, 0, 1] (codeOf rightF)) (by kernel_rfl) ?_
  refine right32 w2 _ a2 mb w.heap.size f2 n2 m2 fun a3 f3 => ?_
  show (part [1, 1, 1, 1, 1, 0, 1] (codeOf rightF)).wp Try.prog (Exit.then ((part [1, 1, 1, 1, 1, 1] (codeOf rightF)).wp Try.prog (bodyPost Try.prog rightF fun e w' => e = .returned (.bool r) ∧ Below w0.heap.size w0 w')) (bodyPost Try.prog rightF fun e w' => e = .returned (.bool r) ∧ Below w0.heap.size w0 w')) a3 w2
  refine wp_if (x := part [1, 1, 1, 1, 1, 0, 1, 0] (codeOf rightF)) (y := part [1, 1, 1, 1, 1, 0, 1, 1] (codeOf rightF)) (o := .tmp 186) (by kernel_rfl) (eval_at f3.2.2.2.2.1 rfl) (fun ht => ?_) (fun ht => ?_)
  · have hc : c32 term index prev commit en data hn site pn = false := by simpa using ht
    exact rightNo1 w2 (fun e w' => e = .returned (.bool r) ∧ Below w0.heap.size w0 w') _ a3 mb ⟨f3.1, f3.2.1, f3.2.2.1, trivial⟩ ⟨by rw [hres, hc]; rfl, hbb⟩ fun _ _ hq => hq
  have hc : c32 term index prev commit en data hn site pn = true := by simpa using ht
  rw [hc, Bool.true_and] at hres
  simp only [c32, Bool.and_eq_true, decide_eq_true_eq] at hc
  obtain ⟨⟨⟨⟨⟨⟨⟨⟨rfl, rfl⟩, rfl⟩, rfl⟩, rfl⟩, _⟩, rfl⟩, rfl⟩, rfl⟩ := hc
  refine wp_nop (by kernel_rfl) ?_
  exact right_tail0 w0 w2 r a3 mb w.heap.size holes ⟨f3.1, f3.2.1, f3.2.2.1, f3.2.2.2.1, trivial⟩ n2 m2 (h3.below hb2) hz hbb hres

set_option maxRecDepth 100000 in
set_option maxHeartbeats 4000000 in
/-- the reference's Right at the kind 10 -/
theorem right10_any (cells : Array Value) (m : MailC) {S : Nat → Prop} (w : World) (hk : m.kind = 10) (hm : MailIs w S cells m) (hok : m.Ok) :
    Calls Try.prog 64 #[.agg cells] w fun e w' => e = .returned (.bool m.right10) ∧ Below w.heap.size w w' := by
  obtain ⟨kind, term, index, prev, commit, good, ents, data, hs', epoch, site, atN, atE, whN, whE, holes, ops⟩ := m
  simp only at hk
  subst hk
  have hm0 := hm
  obtain ⟨eA, en, ec, hA, hn, hc, oA, on, oc, pA, pn, pc, rfl, _⟩ := hm0
  have hbl : Below w.heap.size w (w.alloc (.cells (mailC 10 term index prev commit good eA en ec data hA hn hc epoch site atN atE whN whE oA on oc pA pn pc) 30)) := (Below.refl _ _).alloc (Nat.le_refl _) _
  have hbk := Blk.new w 30 (mailC 10 term index prev commit good eA en ec data hA hn hc epoch site atN atE whN whE oA on oc pA pn pc)
  have c0 := hbk.cell 0
  simp at c0
  have HM := Lib.hid (hm.below hbl)
  have HB := Lib.hid hbl
  have HK := Lib.hid hbk
  have HOK := Lib.hid hok
  clear hm hok hbl hbk
  go_enter Try.func64, Try.ntmps64
  conv => arg 2; arg 2; arg 2; arg 2; change part [1, 1, 1] (codeOf rightF)
  go_wp2_with fail
  exact right_tail w _ _ _ _ w.heap.size ⟨rfl, rfl, rfl, rfl, trivial⟩ rfl HK.out HM.out HOK.out HB.out

set_option maxRecDepth 100000 in
set_option maxHeartbeats 4000000 in
/-- the reference's Take -/
theorem rtakeL_any {A : Option Addr} {n cap : Nat} {S : Nat → Prop} (rb : Nat) (l : LaneC) (cells : Array Value) (m : MailC) (os : List OpC) (w : World) (hL : ¬ S rb) (hU : ∀ b, w.heap.size ≤ b → S b) (hl : RefIs w S rb l) (hm : MailIs w S cells m) (hok : m.Ok) (ho : OpsIs w S A n cap os) (hn : n ≤ 4294967296) :
    Calls Try.prog 38 #[.pointer (some ⟨rb, 0, none⟩), .agg cells, .slice A n cap] w fun x w' => x = .returned (.int .i64 (takeR m)) ∧ RefIs w' S rb (takeS l m os) ∧ Turn rb w w' := by
  have hm0 := hm
  obtain ⟨eA, en, ec, hA, hn', hc, oA, on, oc, pA, pn, pc, rfl, hm1, hm2, hm3, hm4⟩ := hm0
  have hbl : Below w.heap.size w (w.alloc (.cells (mailC m.kind m.term m.index m.prev m.commit m.good eA en ec m.data hA hn' hc m.epoch m.site m.atN m.atE m.whN m.whE oA on oc pA pn pc) 30)) := (Below.refl _ _).alloc (Nat.le_refl _) _
  have hbk := Blk.new w 30 (mailC m.kind m.term m.index m.prev m.commit m.good eA en ec m.data hA hn' hc m.epoch m.site m.atN m.atE m.whN m.whE oA on oc pA pn pc)
  have htk : Rk w (w.alloc (.cells (mailC m.kind m.term m.index m.prev m.commit m.good eA en ec m.data hA hn' hc m.epoch m.site m.atN m.atE m.whN m.whE oA on oc pA pn pc) 30)) S rb w.heap.size l m A n cap os :=
    ⟨hl.below hbl, ⟨eA, en, ec, hA, hn', hc, oA, on, oc, pA, pn, pc, hbk, hm3.below hbl⟩, hU _ (Nat.le_refl _), ho.below hbl, Turn.of (Nat.le_of_lt hl.lt) hbl⟩
  have HT := Lib.hid htk
  have HM := Lib.hid (hm.below hbl)
  have HOK := Lib.hid hok
  have HL := Lib.hid hL
  have HU := Lib.hid hU
  have HZ := Lib.hid hok.holes
  have HBK := Lib.hid hbk
  have c0 := hbk.cell 0
  simp at c0
  clear hL hU hl hm hok ho hm1 hm2 hm3 hm4 hbl hbk htk
  by_cases hk : m.kind = 10
  · have hk1 : (m.kind != 10) = false := by simp [hk]
    have HK := Lib.hid hk
    clear hk
    go_enter Try.func38, Try.ntmps38
    conv => arg 2; arg 2; arg 2; change part [1, 1] (codeOf rtakeF)
    have c := fun k => HBK.out.cell k
    have c1 := c 1
    have c2 := c 2
    have c3 := c 3
    have c4 := c 4
    have c5 := c 5
    have c6 := c 6
    have c7 := c 7
    have c8 := c 8
    have c9 := c 9
    have c10 := c 10
    have c11 := c 11
    have c12 := c 12
    have c13 := c 13
    have c14 := c 14
    have c15 := c 15
    have c16 := c 16
    simp at c1 c2 c3 c4 c5 c6 c7 c8 c9 c10 c11 c12 c13 c14 c15 c16
    clear c
    go_wp2_with fail
    refine (right10_any _ m _ HK.out HM.out HOK.out).mono ?_
    rintro e w1 ⟨rfl, hb1⟩
    have HT1 := Lib.hid (HT.out.below hb1)
    clear hb1 c0 c1 c2 c3 c4 c5 c6 c7 c8 c9 c10 c11 c12 c13 c14 c15 c16
    cases hr : m.right10 with
    | true =>
      have HR := Lib.hid hr
      clear hr
      go_wp2_with fail
      refine rtake_tail _ _ HL.out HU.out ⟨rfl, rfl, rfl, rfl, rfl, trivial⟩ HT1.out hn HZ.out fun w' h1 h2 => ?_
      have e1 : takeR m = m.epoch := by unfold takeR; rw [if_pos ⟨HK.out, HR.out⟩]
      have e2 : takeS l m os = rightS l m os := by unfold takeS; rw [if_pos ⟨HK.out, HR.out⟩]
      rw [e1, e2]
      exact ⟨rfl, h1, h2⟩
    | false =>
      have HR := Lib.hid hr
      clear hr
      go_wp2_with fail
      go_ret
      have e1 : takeR m = 0 := by unfold takeR; rw [if_neg (by rw [HR.out]; simp)]
      have e2 : takeS l m os = l := by unfold takeS; rw [if_neg (by rw [HR.out]; simp)]
      rw [e1, e2]
      exact ⟨rfl, HT1.out.lane, HT1.out.turn⟩
  · have hk1 : (m.kind != 10) = true := by simp [hk]
    have HK := Lib.hid hk
    clear hk
    go_enter Try.func38, Try.ntmps38
    conv => arg 2; arg 2; arg 2; change part [1, 1] (codeOf rtakeF)
    go_wp2_with fail
    go_ret
    have e1 : takeR m = 0 := by unfold takeR; rw [if_neg (by simp [HK.out])]
    have e2 : takeS l m os = l := by unfold takeS; rw [if_neg (by simp [HK.out])]
    rw [e1, e2]
    exact ⟨rfl, HT.out.lane, HT.out.turn⟩
end Go.Proofs.Ytaipgdhdfpemcaa

namespace Go.Proofs.Ytaipgdhdfpemcaa
open Go.RowKit

theorem eta43 (t : Array Value) (h : t.size = 43) : t = #[at_ t 0, at_ t 1, at_ t 2, at_ t 3, at_ t 4, at_ t 5, at_ t 6, at_ t 7, at_ t 8, at_ t 9, at_ t 10, at_ t 11, at_ t 12, at_ t 13, at_ t 14, at_ t 15, at_ t 16, at_ t 17, at_ t 18, at_ t 19, at_ t 20, at_ t 21, at_ t 22, at_ t 23, at_ t 24, at_ t 25, at_ t 26, at_ t 27, at_ t 28, at_ t 29, at_ t 30, at_ t 31, at_ t 32, at_ t 33, at_ t 34, at_ t 35, at_ t 36, at_ t 37, at_ t 38, at_ t 39, at_ t 40, at_ t 41, at_ t 42] := (eta_ t h).trans (by kernel_rfl)

@[reducible] noncomputable def rofferF : Func := Try.f37
/-- where the reference's Offer stands -/
structure Rk4 (w0 W : World) (rb qb : Nat) (l : LaneC) (A : Option Addr) (n cap : Nat) (os : List OpC) : Prop where
  lane : RefIs W (fun b => b < w0.heap.size) rb l
  ops : OpsIs W (fun b => b < w0.heap.size) A n cap os
  low : Below w0.heap.size w0 W
  res : MBlk W qb
  qb0 : qb = w0.heap.size
  rb0 : rb < w0.heap.size
theorem Rk4.below {w0 W W' : World} {rb qb : Nat} {l : LaneC} {A : Option Addr} {n cap : Nat} {os : List OpC} (h : Rk4 w0 W rb qb l A n cap os) (hb : Below W.heap.size W W') : Rk4 w0 W' rb qb l A n cap os :=
  ⟨h.lane.below hb, h.ops.below hb, h.low.trans (hb.mono h.low.size), h.res.below hb, h.qb0, h.rb0⟩
theorem Rk4.turn {w0 W W' : World} {rb qb mb : Nat} {l : LaneC} {A : Option Addr} {n cap : Nat} {os : List OpC} (h : Rk4 w0 W rb qb l A n cap os) (hm : qb < mb) (ht : Turn mb W W') : Rk4 w0 W' rb qb l A n cap os := by
  have h1 := h.qb0
  have h2 := h.rb0
  have hk : Kept (fun b => b < w0.heap.size) W W' := ⟨ht.size, fun b x1 x2 => ht.1 b x2 (by have : b < w0.heap.size := x1; omega)⟩
  obtain ⟨cs, k1, k2⟩ := h.res
  exact ⟨h.lane.kept hk (ht.1 rb h.lane.lt (by omega)), h.ops.kept hk, h.low.trans (ht.2.mono (by omega)), ⟨cs, ht.blk k1 (by omega), k2⟩, h1, h2⟩

set_option maxRecDepth 100000 in
set_option maxHeartbeats 4000000 in
theorem rof1 {w0 w : World} {rb qb : Nat} {l : LaneC} {A : Option Addr} {n cap : Nat} {os : List OpC} {N : Nat} (Q : Exit → Act → World → Prop) (a : Act) (hfr : Fr 43 a [(0, .pointer (some ⟨rb, 0, none⟩)), (1, .slice A n cap), (4, .pointer (some ⟨qb, 0, none⟩))]) (h : Rk4 w0 w rb qb l A n cap os) (hm : (if (n : Int) < l.next then (n : Int) else l.next) = (N : Int))
    (hQ : ∀ a' w', Fr 43 a' [(0, .pointer (some ⟨rb, 0, none⟩)), (1, .slice A n cap), (4, .pointer (some ⟨qb, 0, none⟩)), (5, .int .i64 (N : Nat))] → Rk4 w0 w' rb qb l A n cap os → Q .normal a' w') : (part [1, 0] (codeOf rofferF)).wp Try.prog Q a w := by
  have HQ := Lib.hid hQ
  have HM := Lib.hid hm
  have HK := Lib.hid h
  obtain ⟨oA, on, oc, kl, ki⟩ := h.lane
  have c2 := kl.cell 2
  simp at c2
  clear hQ hm h kl ki
  obtain ⟨t, df⟩ := a
  obtain ⟨hd, hs, h0, h1, h4, -⟩ := hfr
  simp only at hd hs h0 h1 h4
  subst hd
  rw [eta43 t hs, h0, h1, h4]
  clear hs h0 h1 h4
  conv => arg 2; whnf
  by_cases hc : (n : Int) < l.next
  · have e : (n : Int) = (N : Int) := by have := HM.out; rw [if_pos hc] at this; exact this
    have E := Lib.hid e
    clear e
    go_wp2_with fail
    exact HQ.out _ _ ⟨rfl, rfl, rfl, rfl, rfl, congrArg (Value.int .i64) E.out, trivial⟩ HK.out
  · have e : l.next = (N : Int) := by have := HM.out; rw [if_neg hc] at this; exact this
    have E := Lib.hid e
    clear e
    go_wp2_with fail
    exact HQ.out _ _ ⟨rfl, rfl, rfl, rfl, rfl, congrArg (Value.int .i64) E.out, trivial⟩ HK.out

set_option maxRecDepth 100000 in
set_option maxHeartbeats 4000000 in
theorem rof2 {w0 w : World} {rb qb : Nat} {l : LaneC} {A : Option Addr} {n cap : Nat} {os : List OpC} {N : Nat} {mb : Nat} (Q : Exit → Act → World → Prop) (a : Act) (hfr : Fr 43 a [(0, .pointer (some ⟨rb, 0, none⟩)), (1, .slice A n cap), (4, .pointer (some ⟨qb, 0, none⟩)), (5, .int .i64 (N : Nat))]) (h : Rk4 w0 w rb qb l A n cap os) (hmb : w.heap.size = mb) (hqb : qb < mb)
    (hQ : ∀ a' w', Fr 43 a' [(0, .pointer (some ⟨rb, 0, none⟩)), (1, .slice A n cap), (4, .pointer (some ⟨qb, 0, none⟩)), (5, .int .i64 (N : Nat)), (6, .pointer (some ⟨mb, 0, none⟩))] → (Rk4 w0 w' rb qb l A n cap os ∧ Blk w' mb 30 (mailC 9 0 0 0 0 false none 0 0 ⟨#[]⟩ none 0 0 l.epoch l.site 0 0 0 0 none 0 0 none 0 0)) → Q .normal a' w') : (part [1, 1, 0] (codeOf rofferF)).wp Try.prog Q a w := by
  have HQ := Lib.hid hQ
  have HK := Lib.hid h
  have HMB := Lib.hid hmb
  have HQB := Lib.hid hqb
  clear hQ h hmb hqb
  obtain ⟨t, df⟩ := a
  obtain ⟨hd, hs, h0, h1, h4, h5, -⟩ := hfr
  simp only at hd hs h0 h1 h4 h5
  subst hd
  rw [eta43 t hs, h0, h1, h4, h5]
  clear hs h0 h1 h4 h5
  conv => arg 2; whnf
  refine wp_region_stage (by kernel_rfl) (fun i v W => match i with | 0 => v = .pointer (some ⟨rb, 0, none⟩) | 1 => v = .pointer (some ⟨rb, 0, none⟩) | 2 => v = .pointer (some ⟨rb, 0, none⟩) | 3 => v = .int .i64 l.epoch | 4 => v = .pointer (some ⟨rb, 0, none⟩) | 5 => v = .pointer (some ⟨rb, 0, none⟩) | 6 => v = .pointer (some ⟨rb, 1, none⟩) | 7 => v = .int .i64 l.site | 8 => v = .agg (mailC 9 0 0 0 0 false none 0 0 ⟨#[]⟩ none 0 0 l.epoch l.site 0 0 0 0 none 0 0 none 0 0) | 9 => v = .pointer (some ⟨mb, 0, none⟩) ∧ MBlk W mb | 10 => Blk W mb 30 (mailC 9 0 0 0 0 false none 0 0 ⟨#[]⟩ none 0 0 l.epoch l.site 0 0 0 0 none 0 0 none 0 0) | _ => True) (fun W => Rk4 w0 W rb qb l A n cap os) (fun s W => W.heap.size = mb) [9] (fun _ i => decide (i = 9)) (fun W W' => (MBlk W mb → MBlk W' mb) ∧ ((Blk W mb 30 (mailC 9 0 0 0 0 false none 0 0 ⟨#[]⟩ none 0 0 l.epoch l.site 0 0 0 0 none 0 0 none 0 0)) → Blk W' mb 30 (mailC 9 0 0 0 0 false none 0 0 ⟨#[]⟩ none 0 0 l.epoch l.site 0 0 0 0 none 0 0 none 0 0))) (by kernel_rfl) (by kernel_rfl) ?hN ?hG ?hmono ?hstep ?hend
  case hN =>
    intro s hs
    exact HMB.out
  case hG => exact HK.out.below ⟨rfl, rfl, rfl, Nat.le_refl _, fun _ _ => rfl⟩
  case hmono =>
    intro i v W W' hx hv
    match i with
    | 9 =>
      exact ⟨hv.1, hx.1 hv.2⟩
    | 10 =>
      exact hx.2 hv
    | 0 | 1 | 2 | 3 | 4 | 5 | 6 | 7 | 8 => exact hv
    | i + 11 => exact hv
  case hstep =>
    intro i o F U W ho hGW hNs hat hoff hp
    have hrefl := fun W : World => (⟨id, id⟩ : (MBlk W mb → MBlk W mb) ∧ ((Blk W mb 30 (mailC 9 0 0 0 0 false none 0 0 ⟨#[]⟩ none 0 0 l.epoch l.site 0 0 0 0 none 0 0 none 0 0)) → Blk W mb 30 (mailC 9 0 0 0 0 false none 0 0 ⟨#[]⟩ none 0 0 l.epoch l.site 0 0 0 0 none 0 0 none 0 0)))
    match i with
      | 0 =>
        injection (show some _ = some o from ho) with ho
        subst ho
        refine on_ (wanted_none rfl) ?_
        have e0 : F.eval (.tmp 0) = .pointer (some ⟨rb, 0, none⟩) := (hoff 0 (of_decide_eq_true (by kernel_rfl))).trans rfl
        exact wp_move' (.tmp 0) rfl ⟨_, rfl, e0, hGW, hrefl W, fun _ _ _ h => h⟩
      | 1 =>
        injection (show some _ = some o from ho) with ho
        subst ho
        refine on_ (wanted_none rfl) ?_
        have e14 : F.eval (.tmp 14) = .pointer (some ⟨rb, 0, none⟩) := (hat 0 14 (of_decide_eq_true (by kernel_rfl)) rfl).trans (hp ⟨0, .data⟩ (by simp) rfl : U 0 = .pointer (some ⟨rb, 0, none⟩))
        have t14 := act_tmp e14
        clear hat hoff hp
        exact wp_value' (.pointer (some ⟨rb, 0, none⟩)) W (by unfold execOp; go_simp) ⟨_, rfl, rfl, hGW, hrefl W, fun _ _ _ h => h⟩
      | 2 =>
        injection (show some _ = some o from ho) with ho
        subst ho
        refine on_ (wanted_none rfl) ?_
        have e15 : F.eval (.tmp 15) = .pointer (some ⟨rb, 0, none⟩) := (hat 1 15 (of_decide_eq_true (by kernel_rfl)) rfl).trans (hp ⟨1, .data⟩ (by simp) rfl : U 1 = .pointer (some ⟨rb, 0, none⟩))
        have t15 := act_tmp e15
        clear hat hoff hp
        exact wp_value' (.pointer (some ⟨rb, 0, none⟩)) W (by unfold execOp; go_simp) ⟨_, rfl, rfl, hGW, hrefl W, fun _ _ _ h => h⟩
      | 3 =>
        injection (show some _ = some o from ho) with ho
        subst ho
        refine on_ (wanted_none rfl) ?_
        have e16 : F.eval (.tmp 16) = .pointer (some ⟨rb, 0, none⟩) := (hat 2 16 (of_decide_eq_true (by kernel_rfl)) rfl).trans (hp ⟨2, .data⟩ (by simp) rfl : U 2 = .pointer (some ⟨rb, 0, none⟩))
        have t16 := act_tmp e16
        clear hat hoff hp
        obtain ⟨oA, on, oc, kl, ki⟩ := hGW.lane
        have d := kl.cell 0
        simp at d
        exact wp_value' (.int .i64 l.epoch) W (by unfold execOp; go_simp) ⟨_, rfl, rfl, hGW, hrefl W, fun _ _ _ h => h⟩
      | 4 =>
        injection (show some _ = some o from ho) with ho
        subst ho
        refine on_ (wanted_none rfl) ?_
        have e0 : F.eval (.tmp 0) = .pointer (some ⟨rb, 0, none⟩) := (hoff 0 (of_decide_eq_true (by kernel_rfl))).trans rfl
        exact wp_move' (.tmp 0) rfl ⟨_, rfl, e0, hGW, hrefl W, fun _ _ _ h => h⟩
      | 5 =>
        injection (show some _ = some o from ho) with ho
        subst ho
        refine on_ (wanted_none rfl) ?_
        have e18 : F.eval (.tmp 18) = .pointer (some ⟨rb, 0, none⟩) := (hat 4 18 (of_decide_eq_true (by kernel_rfl)) rfl).trans (hp ⟨4, .data⟩ (by simp) rfl : U 4 = .pointer (some ⟨rb, 0, none⟩))
        have t18 := act_tmp e18
        clear hat hoff hp
        exact wp_value' (.pointer (some ⟨rb, 0, none⟩)) W (by unfold execOp; go_simp) ⟨_, rfl, rfl, hGW, hrefl W, fun _ _ _ h => h⟩
      | 6 =>
        injection (show some _ = some o from ho) with ho
        subst ho
        refine on_ (wanted_none rfl) ?_
        have e19 : F.eval (.tmp 19) = .pointer (some ⟨rb, 0, none⟩) := (hat 5 19 (of_decide_eq_true (by kernel_rfl)) rfl).trans (hp ⟨5, .data⟩ (by simp) rfl : U 5 = .pointer (some ⟨rb, 0, none⟩))
        have t19 := act_tmp e19
        clear hat hoff hp
        exact wp_value' (.pointer (some ⟨rb, 1, none⟩)) W (by unfold execOp; go_simp) ⟨_, rfl, rfl, hGW, hrefl W, fun _ _ _ h => h⟩
      | 7 =>
        injection (show some _ = some o from ho) with ho
        subst ho
        refine on_ (wanted_none rfl) ?_
        have e20 : F.eval (.tmp 20) = .pointer (some ⟨rb, 1, none⟩) := (hat 6 20 (of_decide_eq_true (by kernel_rfl)) rfl).trans (hp ⟨6, .data⟩ (by simp) rfl : U 6 = .pointer (some ⟨rb, 1, none⟩))
        have t20 := act_tmp e20
        clear hat hoff hp
        obtain ⟨oA, on, oc, kl, ki⟩ := hGW.lane
        have d := kl.cell 1
        simp at d
        exact wp_value' (.int .i64 l.site) W (by unfold execOp; go_simp) ⟨_, rfl, rfl, hGW, hrefl W, fun _ _ _ h => h⟩
      | 8 =>
        injection (show some _ = some o from ho) with ho
        subst ho
        refine on_ (wanted_none rfl) ?_
        have e17 : F.eval (.tmp 17) = .int .i64 l.epoch := (hat 3 17 (of_decide_eq_true (by kernel_rfl)) rfl).trans (hp ⟨3, .data⟩ (by simp) rfl : U 3 = .int .i64 l.epoch)
        have t17 := act_tmp e17
        have e21 : F.eval (.tmp 21) = .int .i64 l.site := (hat 7 21 (of_decide_eq_true (by kernel_rfl)) rfl).trans (hp ⟨7, .data⟩ (by simp) rfl : U 7 = .int .i64 l.site)
        have t21 := act_tmp e21
        clear hat hoff hp
        exact wp_value' (.agg (mailC 9 0 0 0 0 false none 0 0 ⟨#[]⟩ none 0 0 l.epoch l.site 0 0 0 0 none 0 0 none 0 0)) W (by unfold execOp; go_simp) ⟨_, rfl, rfl, hGW, hrefl W, fun _ _ _ h => h⟩
      | 9 =>
        injection (show some _ = some o from ho) with ho
        subst ho
        refine on_ (wanted_none rfl) ?_
        have hN : W.heap.size = mb := hNs 9 (by simp) (by decide)
        clear hat hoff hp
        have hb : Below W.heap.size W (W.alloc (.cells noMail 30)) := (Below.refl _ _).alloc (Nat.le_refl _) _
        refine wp_value' (.pointer (some ⟨W.heap.size, 0, none⟩)) (W.alloc (.cells noMail 30)) (by unfold execOp; go_simp) ⟨_, rfl, ⟨by rw [hN], ⟨_, by rw [← hN]; exact Blk.new W _ _, rfl⟩⟩, hGW.below hb, ?_, ?_⟩
        · exact ⟨fun h => h.below hb, fun h => h.below hb h.lt⟩
        · intro s hs hne _
          simp at hs
          exact absurd hs hne
      | 10 =>
        injection (show some _ = some o from ho) with ho
        subst ho
        refine on_ (wanted_none rfl) ?_
        have e6 : F.eval (.tmp 6) = .pointer (some ⟨mb, 0, none⟩) := (hat 9 6 (of_decide_eq_true (by kernel_rfl)) rfl).trans (hp ⟨9, .data⟩ (by simp) rfl).1
        have t6 := act_tmp e6
        have x6 := (hp ⟨9, .data⟩ (by simp) rfl).2
        have e22 : F.eval (.tmp 22) = .agg (mailC 9 0 0 0 0 false none 0 0 ⟨#[]⟩ none 0 0 l.epoch l.site 0 0 0 0 none 0 0 none 0 0) := (hat 8 22 (of_decide_eq_true (by kernel_rfl)) rfl).trans (hp ⟨8, .data⟩ (by simp) rfl : U 8 = .agg (mailC 9 0 0 0 0 false none 0 0 ⟨#[]⟩ none 0 0 l.epoch l.site 0 0 0 0 none 0 0 none 0 0))
        have t22 := act_tmp e22
        clear hat hoff hp
        obtain ⟨cs0, hk0, hs0⟩ := x6
        have hn := hk0.setCells_ (mailC 9 0 0 0 0 false none 0 0 ⟨#[]⟩ none 0 0 l.epoch l.site 0 0 0 0 none 0 0 none 0 0).toList (by rw [hs0]; rfl)
        have ht := setCells_turn mb 0 (mailC 9 0 0 0 0 false none 0 0 ⟨#[]⟩ none 0 0 l.epoch l.site 0 0 0 0 none 0 0 none 0 0).toList W
        have hsz := size_setCells W mb 0 (mailC 9 0 0 0 0 false none 0 0 ⟨#[]⟩ none 0 0 l.epoch l.site 0 0 0 0 none 0 0 none 0 0).toList
        refine wp_store_mid 30 (.tmp 6) (.tmp 22) rfl mb 0 (mailC 9 0 0 0 0 false none 0 0 ⟨#[]⟩ none 0 0 l.epoch l.site 0 0 0 0 none 0 0 none 0 0) e6 e22 (hk0.there_ 0 _ (by rw [hs0]; exact Nat.le_refl _)) Try.sizeMail mailC_one ?_
        exact ⟨_, rfl, hn, hGW.turn HQB.out ht, ⟨fun _ => ⟨_, hn, rfl⟩, fun _ => hn⟩, fun s hs _ h => by simp at hs; subst hs; exact hsz.trans h⟩
      | i + 11 => exact absurd ho (by simp)
  case hend =>
    intro U W hGW hV
    have hf : Blk W mb 30 (mailC 9 0 0 0 0 false none 0 0 ⟨#[]⟩ none 0 0 l.epoch l.site 0 0 0 0 none 0 0 none 0 0) := hV 10 (of_decide_eq_true (by kernel_rfl))
    have h6 := (hV 9 (of_decide_eq_true (by kernel_rfl))).1
    have HF := Lib.hid hf
    have HG := Lib.hid hGW
    clear hV hGW hf
    simp [putU, dstAt, Act.put]
    exact HQ.out _ _ ⟨rfl, rfl, rfl, rfl, rfl, rfl, h6, trivial⟩ ⟨HG.out, HF.out⟩

set_option maxRecDepth 100000 in
set_option maxHeartbeats 4000000 in
theorem rof3 {w0 w : World} {rb qb : Nat} {l : LaneC} {A : Option Addr} {n cap : Nat} {os : List OpC} {N : Nat} {mb : Nat} (Q : Exit → Act → World → Prop) (a : Act) (hfr : Fr 43 a [(0, .pointer (some ⟨rb, 0, none⟩)), (1, .slice A n cap), (4, .pointer (some ⟨qb, 0, none⟩)), (5, .int .i64 (N : Nat)), (6, .pointer (some ⟨mb, 0, none⟩))]) (h : (Rk4 w0 w rb qb l A n cap os ∧ Blk w mb 30 (mailC 9 0 0 0 0 false none 0 0 ⟨#[]⟩ none 0 0 l.epoch l.site 0 0 0 0 none 0 0 none 0 0))) (hb : N ≤ n ∧ n ≤ 4294967296) (hqb : qb < mb)
    (hQ : ∀ a' w', Fr 43 a' [(0, .pointer (some ⟨rb, 0, none⟩)), (1, .slice A n cap), (4, .pointer (some ⟨qb, 0, none⟩)), (5, .int .i64 (N : Nat)), (6, .pointer (some ⟨mb, 0, none⟩))] → (Rk4 w0 w' rb qb l A n cap os ∧ Blk w' mb 30 (mailC 9 0 0 0 0 false none 0 0 ⟨#[]⟩ none 0 0 l.epoch l.site (lastC (os.take N)).1 (lastC (os.take N)).2 0 0 none 0 0 none 0 0)) → Q .normal a' w') : (part [1, 1, 1, 0] (codeOf rofferF)).wp Try.prog Q a w := by
  have HQ := Lib.hid hQ
  have HK := Lib.hid h
  have HB := Lib.hid hb
  have HQB := Lib.hid hqb
  clear hQ h hqb
  obtain ⟨t, df⟩ := a
  obtain ⟨hd, hs, h0, h1, h4, h5, h6, -⟩ := hfr
  simp only at hd hs h0 h1 h4 h5 h6
  subst hd
  rw [eta43 t hs, h0, h1, h4, h5, h6]
  clear hs h0 h1 h4 h5 h6
  conv => arg 2; whnf
  rcases Nat.eq_zero_or_pos N with h0 | h0
  · subst h0
    go_wp2_with fail
    refine HQ.out _ _ ⟨rfl, rfl, rfl, rfl, rfl, rfl, rfl, trivial⟩ ⟨HK.out.1, ?_⟩
    have hk := HK.out.2
    rw [List.take_zero]
    exact hk
  · obtain ⟨k, rfl⟩ : ∃ k, N = k + 1 := ⟨N - 1, by omega⟩
    obtain ⟨ad, c, hA, hn', hc, rfl, hab, hck, hop, hss⟩ := HK.out.1.ops.at_ (k := k) (by omega)
    have hlast : lastC (os.take (k + 1)) = (c.n, c.epoch) := by
      unfold lastC
      rw [List.take_add_one, hck]
      simp
    have HLA := Lib.hid hlast
    obtain ⟨k0, k1, k2, k3, k4, k5, k6, k7, k8⟩ := hop
    obtain ⟨x1, x2, x3, x4, x5, x6, x7, x8, x9⟩ := c
    simp only [OpC.at_] at k0 k1 k2 k3 k4 k5 k6 k7 k8
    have b1 : (0 : Int) ≤ (k : Int) := by omega
    have b2 : (k : Int) < (n : Int) := by omega
    have b3 : decide ((0 : Int) < ((k + 1 : Nat) : Int)) = true := decide_eq_true (by omega)
    have b4 : ((k + 1 : Nat) : Int) - 1 = (k : Int) := by omega
    clear hck hss hlast h0
    go_wp2_with fail
    refine (at_any x1 x2 x3 x4 x5 x6 x7 x8 _ w).mono ?_
    rintro e w1 ⟨rfl, hb1⟩
    have hk1 := HK.out.2.below hb1 HK.out.2.lt
    have d11 := hk1.cell 11
    have d12 := hk1.cell 12
    have f11 := hk1.frozen 11
    have f12 := hk1.frozen 12
    simp at d11 d12
    have HK1 := Lib.hid (HK.out.1.below hb1)
    have HB1 := Lib.hid hk1
    clear hb1 hk1 k0 k1 k2 k3 k4 k5 k6 k7 k8
    go_wp2_with fail
    have ht : Turn mb w1 ((w1.setCell ⟨mb, 11, none⟩ (.int .i64 x1)).setCell ⟨mb, 12, none⟩ (.int .i64 x2)) := (setCell_turn mb 11 _ w1).trans (setCell_turn mb 12 _ _)
    refine HQ.out _ _ ⟨rfl, rfl, rfl, rfl, rfl, rfl, rfl, trivial⟩ ⟨HK1.out.turn HQB.out ht, ?_⟩
    rw [HLA.out]
    exact (HB1.out.set_ 11 _).set_ 12 _

set_option maxRecDepth 100000 in
set_option maxHeartbeats 4000000 in
theorem rof5a {w0 w : World} {rb qb : Nat} {l : LaneC} {A : Option Addr} {n cap : Nat} {os : List OpC} {N : Nat} {mb M : Nat} (sA : Option Addr) (sn sc : Nat) (xs : List OpC) (Q : Exit → Act → World → Prop) (a : Act) (hfr : Fr 43 a [(0, .pointer (some ⟨rb, 0, none⟩)), (1, .slice A n cap), (4, .pointer (some ⟨qb, 0, none⟩)), (5, .int .i64 (N : Nat)), (6, .pointer (some ⟨mb, 0, none⟩))]) (h : (Rk4 w0 w rb qb l A n cap os ∧ Blk w mb 30 (mailC 9 0 0 0 0 false none 0 0 ⟨#[]⟩ none 0 0 l.epoch l.site (lastC (os.take N)).1 (lastC (os.take N)).2 0 0 none 0 0 none 0 0))) (hb : N ≤ n ∧ n ≤ 4294967296 ∧ sn ≤ n) (hme : M = min n (N + 8)) (hok : ∀ o ∈ xs, o.Ok)
    (hc : OpsIs w (fun b => b < w0.heap.size) sA sn sc xs) (hq : ∀ w, (Instr.slice 28 (.slice A n cap) (some (.int .i64 (N : Nat))) (some (.int .i64 (M : Nat))) none).run Try.prog w = .ok (.slice sA sn sc) w)
    (hQ : ∀ a' w1 A' c', Fr 43 a' [(0, .pointer (some ⟨rb, 0, none⟩)), (1, .slice A n cap), (4, .pointer (some ⟨qb, 0, none⟩)), (5, .int .i64 (N : Nat)), (6, .pointer (some ⟨mb, 0, none⟩))] → Rk4 w0 w1 rb qb l A n cap os → Blk w1 mb 30 (mailC 9 0 0 0 0 false none 0 0 ⟨#[]⟩ none 0 0 l.epoch l.site (lastC (os.take N)).1 (lastC (os.take N)).2 0 0 none 0 0 none 0 0) → OpsIs w1 (From w.heap.size) A' sn c' xs → Q .normal a' (w1.setCell ⟨mb, 16, none⟩ (.slice A' sn c'))) :
    (part [1, 1, 1, 1, 0] (codeOf rofferF)).wp Try.prog Q a w := by
  have HQ := Lib.hid hQ
  have HK := Lib.hid h
  have HB := Lib.hid hb
  have HC := Lib.hid hc
  have HOK := Lib.hid hok
  have hn := hb.2.1
  have hN0 := hb.1
  clear hQ h hok hb hc
  obtain ⟨t, df⟩ := a
  obtain ⟨hd, hs, h0, h1, h4, h5, h6, -⟩ := hfr
  simp only at hd hs h0 h1 h4 h5 h6
  subst hd
  rw [eta43 t hs, h0, h1, h4, h5, h6]
  clear hs h0 h1 h4 h5 h6
  conv => arg 2; whnf
  by_cases hc : (N : Int) + 8 < (n : Int)
  · have e : ((M : Nat) : Int) = (N : Int) + 8 := by omega
    have q := hq w
    rw [e] at q
    clear hq e hme
    go_wp2_with fail
    refine (ownOps_any sA sn sc _ w HC.out (by have := HB.out; omega) HOK.out).mono ?_
    rintro e w1 ⟨A', c', rfl, ho1, hb1⟩
    have hk1 := HK.out.2.below hb1 HK.out.2.lt
    have d16 := hk1.cell 16
    have f16 := hk1.frozen 16
    simp at d16
    have HK1 := Lib.hid (HK.out.1.below hb1)
    have HB1 := Lib.hid hk1
    have HO1 := Lib.hid ho1
    clear hb1 hk1 ho1
    go_wp2_with fail
    have k1 := HK1.out
    have k2 := HB1.out
    have k3 := HO1.out
    refine HQ.out _ w1 A' c' ?_ k1 k2 k3
    exact ⟨rfl, rfl, rfl, rfl, rfl, rfl, rfl, trivial⟩
  · have e : ((M : Nat) : Int) = (n : Int) := by omega
    have q := hq w
    rw [e] at q
    clear hq e hme
    go_wp2_with fail
    refine (ownOps_any sA sn sc _ w HC.out (by have := HB.out; omega) HOK.out).mono ?_
    rintro e w1 ⟨A', c', rfl, ho1, hb1⟩
    have hk1 := HK.out.2.below hb1 HK.out.2.lt
    have d16 := hk1.cell 16
    have f16 := hk1.frozen 16
    simp at d16
    have HK1 := Lib.hid (HK.out.1.below hb1)
    have HB1 := Lib.hid hk1
    have HO1 := Lib.hid ho1
    clear hb1 hk1 ho1
    go_wp2_with fail
    have k1 := HK1.out
    have k2 := HB1.out
    have k3 := HO1.out
    refine HQ.out _ w1 A' c' ?_ k1 k2 k3
    exact ⟨rfl, rfl, rfl, rfl, rfl, rfl, rfl, trivial⟩

set_option maxRecDepth 100000 in
set_option maxHeartbeats 4000000 in
theorem rof5 {w0 w : World} {rb qb : Nat} {l : LaneC} {A : Option Addr} {n cap : Nat} {os : List OpC} {N : Nat} {mb : Nat} {M : Nat} (Q : Exit → Act → World → Prop) (a : Act) (hfr : Fr 43 a [(0, .pointer (some ⟨rb, 0, none⟩)), (1, .slice A n cap), (4, .pointer (some ⟨qb, 0, none⟩)), (5, .int .i64 (N : Nat)), (6, .pointer (some ⟨mb, 0, none⟩))]) (h : (Rk4 w0 w rb qb l A n cap os ∧ Blk w mb 30 (mailC 9 0 0 0 0 false none 0 0 ⟨#[]⟩ none 0 0 l.epoch l.site (lastC (os.take N)).1 (lastC (os.take N)).2 0 0 none 0 0 none 0 0))) (hqb : qb < mb) (hb : N ≤ n ∧ N ≤ M ∧ M ≤ n ∧ n ≤ 4294967296) (hme : M = min n (N + 8)) (hok : ∀ o ∈ (os.drop N).take (M - N), o.Ok)
    (hQ : ∀ a' w', Fr 43 a' [(0, .pointer (some ⟨rb, 0, none⟩)), (1, .slice A n cap), (4, .pointer (some ⟨qb, 0, none⟩)), (5, .int .i64 (N : Nat)), (6, .pointer (some ⟨mb, 0, none⟩))] → (Rk4 w0 w' rb qb l A n cap os ∧ ∃ A' c', Blk w' mb 30 (mailC 9 0 0 0 0 false none 0 0 ⟨#[]⟩ none 0 0 l.epoch l.site (lastC (os.take N)).1 (lastC (os.take N)).2 0 0 none 0 0 A' (M - N) c') ∧ OpsIs w' (fun b => w0.heap.size ≤ b ∧ b ≠ qb ∧ b ≠ mb) A' (M - N) c' ((os.drop N).take (M - N))) → Q .normal a' w') : (part [1, 1, 1, 1, 0] (codeOf rofferF)).wp Try.prog Q a w := by
  have hcap : n ≤ cap ∧ cap ≤ maxLen := by obtain ⟨_, _, _, h, h'⟩ := h.1.ops; exact ⟨h, h'⟩
  refine rof5a (if cap = N then A else A.map (·.add (N * 9))) (M - N) (cap - N) _ Q a hfr h ⟨hb.1, hb.2.2.2, by omega⟩ hme hok (h.1.ops.cut hb.2.1 hb.2.2.1) (slice_of A n cap N M hb.2.1 hb.2.2.1 hcap.1 hcap.2) fun a' w1 A' c' hf hk1 hb1 ho1 => ?_
  have hml := h.2.lt
  have hql : qb < w.heap.size := by obtain ⟨cs, h1, _⟩ := h.1.res; exact h1.lt
  have hlow := h.1.low.size
  have ht : Turn mb w1 (w1.setCell ⟨mb, 16, none⟩ (.slice A' (M - N) c')) := setCell_turn mb 16 _ w1
  refine hQ a' _ hf ⟨hk1.turn hqb ht, A', c', hb1.set_ 16 _, ?_⟩
  have h2 : OpsIs w1 (fun b => w0.heap.size ≤ b ∧ b ≠ qb ∧ b ≠ mb) A' (M - N) c' ((os.drop N).take (M - N)) := ho1.mono fun b _ h => by
    have : w.heap.size ≤ b := h
    exact ⟨by omega, by omega, by omega⟩
  exact h2.kept ⟨ht.size, fun b x1 x2 => ht.1 b x2 x1.2.2⟩

set_option maxRecDepth 100000 in
set_option maxHeartbeats 4000000 in
theorem rof6 {w : World} {rb qb : Nat} {l : LaneC} {A : Option Addr} {n cap : Nat} {os : List OpC} {N : Nat} {mb M : Nat} {A' : Option Addr} {c' : Nat} (R : Ending → World → Prop) (a : Act) (hfr : Fr 43 a [(0, .pointer (some ⟨rb, 0, none⟩)), (1, .slice A n cap), (4, .pointer (some ⟨qb, 0, none⟩)), (5, .int .i64 (N : Nat)), (6, .pointer (some ⟨mb, 0, none⟩))]) (hm : Blk w mb 30 (mailC 9 0 0 0 0 false none 0 0 ⟨#[]⟩ none 0 0 l.epoch l.site (lastC (os.take N)).1 (lastC (os.take N)).2 0 0 none 0 0 A' (M - N) c')) (hres : MBlk w qb)
    (hR : R (.returned (.agg (mailC 9 0 0 0 0 false none 0 0 ⟨#[]⟩ none 0 0 l.epoch l.site (lastC (os.take N)).1 (lastC (os.take N)).2 0 0 none 0 0 A' (M - N) c'))) (w.setCells qb 0 (mailC 9 0 0 0 0 false none 0 0 ⟨#[]⟩ none 0 0 l.epoch l.site (lastC (os.take N)).1 (lastC (os.take N)).2 0 0 none 0 0 A' (M - N) c').toList)) : (part [1, 1, 1, 1, 1] (codeOf rofferF)).wp Try.prog (bodyPost Try.prog rofferF R) a w := by
  obtain ⟨cs0, hk0, hs0⟩ := hres
  have hn := hk0.setCells_ (mailC 9 0 0 0 0 false none 0 0 ⟨#[]⟩ none 0 0 l.epoch l.site (lastC (os.take N)).1 (lastC (os.take N)).2 0 0 none 0 0 A' (M - N) c').toList (by rw [hs0]; rfl)
  have HR := Lib.hid hR
  clear hR
  obtain ⟨t, df⟩ := a
  obtain ⟨hd, hs, h0, h1, h4, h5, h6, -⟩ := hfr
  simp only at hd hs h0 h1 h4 h5 h6
  subst hd
  rw [eta43 t hs, h0, h1, h4, h5, h6]
  clear hs h0 h1 h4 h5 h6
  refine wp_two (x := part [1, 1, 1, 1, 1, 0] (codeOf rofferF)) (y := part [1, 1, 1, 1, 1, 1] (codeOf rofferF)) (by kernel_rfl) ?_
  conv => arg 2; whnf
  refine wp_region_lit ?_
  refine wpList_load_mid rfl 30 (.tmp 6) rfl mb 0 rfl _ _ hm.range Try.underlying30 rfl Try.sizeMail ?_
  refine wpList_store_mid rfl 30 (.tmp 4) (.tmp 42) rfl qb 0 (mailC 9 0 0 0 0 false none 0 0 ⟨#[]⟩ none 0 0 l.epoch l.site (lastC (os.take N)).1 (lastC (os.take N)).2 0 0 none 0 0 A' (M - N) c') rfl rfl (hk0.there_ 0 _ (by rw [hs0]; exact Nat.le_refl _)) Try.sizeMail mailC_one ?_
  refine wpList_nil ?_
  show (part [1, 1, 1, 1, 1, 1] (codeOf rofferF)).wp Try.prog _ _ _
  conv => arg 2; whnf
  refine wp_ret ?_
  refine bodyPost_ret (results_cell rfl rfl hn.range Try.underlying30 rfl Try.sizeMail) rfl ?_
  exact HR.out

set_option maxRecDepth 100000 in
set_option maxHeartbeats 4000000 in
/-- what the reference's lane offers -/
theorem rofferL_any {A : Option Addr} {n cap : Nat} {S : Nat → Prop} (rb : Nat) (l : LaneC) (os : List OpC) (w0 : World) (N M : Nat) (hN : (N : Int) = min l.next n) (hM : M = min n (N + 8)) (hl : RefIs w0 S rb l) (ho : OpsIs w0 S A n cap os) (hn : n ≤ 4294967296) (hok : ∀ o ∈ os, o.Ok) :
    Calls Try.prog 37 #[.pointer (some ⟨rb, 0, none⟩), .slice A n cap] w0 fun x w' => ∃ A' c', x = .returned (.agg (mailC 9 0 0 0 0 false none 0 0 ⟨#[]⟩ none 0 0 l.epoch l.site (lastC (os.take N)).1 (lastC (os.take N)).2 0 0 none 0 0 A' (M - N) c')) ∧ OpsIs w' (From w0.heap.size) A' (M - N) c' ((os.drop N).take (M - N)) ∧ Below w0.heap.size w0 w' := by
  have hl0 : RefIs w0 (fun b => b < w0.heap.size) rb l := by
    obtain ⟨oA, on, oc, h1, h2⟩ := hl
    exact ⟨oA, on, oc, h1, h2.mono fun b hb _ => hb⟩
  have ho0 : OpsIs w0 (fun b => b < w0.heap.size) A n cap os := ho.mono fun b hb _ => hb
  have hlt := hl.lt
  have hba : Below w0.heap.size w0 (w0.alloc (.cells noMail 30)) := (Below.refl _ _).alloc (Nat.le_refl _) _
  have HK := Lib.hid (⟨hl0.below hba, ho0.below hba, hba, ⟨_, Blk.new w0 30 noMail, rfl⟩, rfl, hlt⟩ : Rk4 w0 (w0.alloc (.cells noMail 30)) rb w0.heap.size l A n cap os)
  have hmin : (if (n : Int) < l.next then (n : Int) else l.next) = (N : Int) := by split <;> omega
  have HMIN := Lib.hid hmin
  have HB := Lib.hid (show N ≤ n ∧ N ≤ M ∧ M ≤ n ∧ n ≤ 4294967296 from ⟨by omega, by omega, by omega, hn⟩)
  have HME := Lib.hid hM
  have HOK := Lib.hid (show ∀ o ∈ (os.drop N).take (M - N), o.Ok from fun o h => hok o (List.mem_of_mem_drop (List.mem_of_mem_take h)))
  clear hl ho hok hN hM hl0 ho0 hba hmin
  go_enter Try.func37, Try.ntmps37
  conv => arg 2; arg 2; change part [1] (codeOf rofferF)
  go_wp2_with fail
  refine wp_two (x := part [1, 0] (codeOf rofferF)) (y := part [1, 1] (codeOf rofferF)) (by kernel_rfl) ?_
  refine rof1 _ _ ⟨rfl, rfl, rfl, rfl, rfl, trivial⟩ HK.out HMIN.out fun a1 w1 f1 h1 => ?_
  show (part [1, 1] (codeOf rofferF)).wp Try.prog _ a1 w1
  refine wp_two (x := part [1, 1, 0] (codeOf rofferF)) (y := part [1, 1, 1] (codeOf rofferF)) (by kernel_rfl) ?_
  have hq1 : w0.heap.size < w1.heap.size := by obtain ⟨cs, h2, _⟩ := h1.res; exact h2.lt
  refine rof2 (mb := w1.heap.size) _ a1 f1 h1 rfl hq1 fun a2 w2 f2 h2 => ?_
  show (part [1, 1, 1] (codeOf rofferF)).wp Try.prog _ a2 w2
  refine wp_two (x := part [1, 1, 1, 0] (codeOf rofferF)) (y := part [1, 1, 1, 1] (codeOf rofferF)) (by kernel_rfl) ?_
  refine rof3 _ a2 f2 h2 ⟨HB.out.1, HB.out.2.2.2⟩ hq1 fun a3 w3 f3 h3 => ?_
  show (part [1, 1, 1, 1] (codeOf rofferF)).wp Try.prog _ a3 w3
  refine wp_two (x := part [1, 1, 1, 1, 0] (codeOf rofferF)) (y := part [1, 1, 1, 1, 1] (codeOf rofferF)) (by kernel_rfl) ?_
  refine rof5 _ a3 f3 h3 hq1 HB.out HME.out HOK.out fun a4 w4 f4 h4 => ?_
  obtain ⟨k4, A', c', m4, o4⟩ := h4
  show (part [1, 1, 1, 1, 1] (codeOf rofferF)).wp Try.prog _ a4 w4
  refine rof6 _ a4 f4 m4 k4.res ⟨A', c', rfl, ?_, below_setCells (Nat.le_refl _) k4.low _ _⟩
  have hsv := save_setCells w4 w0.heap.size 0 (mailC 9 0 0 0 0 false none 0 0 ⟨#[]⟩ none 0 0 l.epoch l.site (lastC (os.take N)).1 (lastC (os.take N)).2 0 0 none 0 0 A' (M - N) c').toList
  have hsz := size_setCells w4 w0.heap.size 0 (mailC 9 0 0 0 0 false none 0 0 ⟨#[]⟩ none 0 0 l.epoch l.site (lastC (os.take N)).1 (lastC (os.take N)).2 0 0 none 0 0 A' (M - N) c').toList
  exact (o4.kept ⟨by rw [hsz]; exact Nat.le_refl _, fun b x1 x2 => hsv b x2 x1.2.1⟩).mono fun b _ h => h.1
end Go.Proofs.Ytaipgdhdfpemcaa

namespace Go.Proofs.Ytaipgdhdfpemcaa
open Go.RowKit

/-- a mail's box -/
def Bx0 (w : World) (S : Nat → Prop) (mb : Nat) (cells : Array Value) (m : MailC) : Prop := Blk w mb 30 cells ∧ MailIs w S cells m ∧ S mb
theorem Bx0.below {w w' : World} {S : Nat → Prop} {mb : Nat} {cells : Array Value} {m : MailC} (h : Bx0 w S mb cells m) (hb : Below w.heap.size w w') : Bx0 w' S mb cells m := ⟨h.1.below hb h.1.lt, h.2.1.below hb, h.2.2⟩
end Go.Proofs.Ytaipgdhdfpemcaa

namespace Go.Proofs.Ytaipgdhdfpemcaa
open Go.RowKit

theorem eta142 (t : Array Value) (h : t.size = 142) : t = #[at_ t 0, at_ t 1, at_ t 2, at_ t 3, at_ t 4, at_ t 5, at_ t 6, at_ t 7, at_ t 8, at_ t 9, at_ t 10, at_ t 11, at_ t 12, at_ t 13, at_ t 14, at_ t 15, at_ t 16, at_ t 17, at_ t 18, at_ t 19, at_ t 20, at_ t 21, at_ t 22, at_ t 23, at_ t 24, at_ t 25, at_ t 26, at_ t 27, at_ t 28, at_ t 29, at_ t 30, at_ t 31, at_ t 32, at_ t 33, at_ t 34, at_ t 35, at_ t 36, at_ t 37, at_ t 38, at_ t 39, at_ t 40, at_ t 41, at_ t 42, at_ t 43, at_ t 44, at_ t 45, at_ t 46, at_ t 47, at_ t 48, at_ t 49, at_ t 50, at_ t 51, at_ t 52, at_ t 53, at_ t 54, at_ t 55, at_ t 56, at_ t 57, at_ t 58, at_ t 59, at_ t 60, at_ t 61, at_ t 62, at_ t 63, at_ t 64, at_ t 65, at_ t 66, at_ t 67, at_ t 68, at_ t 69, at_ t 70, at_ t 71, at_ t 72, at_ t 73, at_ t 74, at_ t 75, at_ t 76, at_ t 77, at_ t 78, at_ t 79, at_ t 80, at_ t 81, at_ t 82, at_ t 83, at_ t 84, at_ t 85, at_ t 86, at_ t 87, at_ t 88, at_ t 89, at_ t 90, at_ t 91, at_ t 92, at_ t 93, at_ t 94, at_ t 95, at_ t 96, at_ t 97, at_ t 98, at_ t 99, at_ t 100, at_ t 101, at_ t 102, at_ t 103, at_ t 104, at_ t 105, at_ t 106, at_ t 107, at_ t 108, at_ t 109, at_ t 110, at_ t 111, at_ t 112, at_ t 113, at_ t 114, at_ t 115, at_ t 116, at_ t 117, at_ t 118, at_ t 119, at_ t 120, at_ t 121, at_ t 122, at_ t 123, at_ t 124, at_ t 125, at_ t 126, at_ t 127, at_ t 128, at_ t 129, at_ t 130, at_ t 131, at_ t 132, at_ t 133, at_ t 134, at_ t 135, at_ t 136, at_ t 137, at_ t 138, at_ t 139, at_ t 140, at_ t 141] := (eta_ t h).trans (by kernel_rfl)

@[reducible] noncomputable def takesF : Func := Try.f6
/-- all blocks but the two lanes' -/
def Two (lb rb : Nat) : Nat → Prop := fun b => b ≠ lb ∧ b ≠ rb
/-- what a lane offers -/
def offM (l : LaneC) (os : List OpC) : MailC :=
  ⟨9, 0, 0, 0, 0, false, [], ⟨#[]⟩, [], l.epoch, l.site, (lastC (os.take (min l.next os.length).toNat)).1, (lastC (os.take (min l.next os.length).toNat)).2, 0, 0, [], (os.drop (min l.next os.length).toNat).take (min os.length ((min l.next os.length).toNat + 8) - (min l.next os.length).toNat)⟩
theorem offN {l : LaneC} {n : Nat} (h : 0 ≤ l.next) : (((min l.next n).toNat : Nat) : Int) = min l.next n := by omega
theorem offM_is {w : World} {S : Nat → Prop} {l : LaneC} {os : List OpC} {n : Nat} {A' : Option Addr} {c' : Nat} (hn : os.length = n)
    (h : OpsIs w S A' (min n ((min l.next n).toNat + 8) - (min l.next n).toNat) c' ((os.drop (min l.next n).toNat).take (min n ((min l.next n).toNat + 8) - (min l.next n).toNat))) :
    MailIs w S (mailC 9 0 0 0 0 false none 0 0 ⟨#[]⟩ none 0 0 l.epoch l.site (lastC (os.take (min l.next n).toNat)).1 (lastC (os.take (min l.next n).toNat)).2 0 0 none 0 0 A' (min n ((min l.next n).toNat + 8) - (min l.next n).toNat) c') (offM l os) := by
  subst hn
  exact ⟨none, 0, 0, none, 0, 0, none, 0, 0, A', _, c', rfl, ⟨Rs.nil_ _ _ _ _, Nat.le_refl _, Nat.zero_le _⟩, ⟨Rs.nil_ _ _ _ _, Nat.le_refl _, Nat.zero_le _⟩, ⟨Rs.nil_ _ _ _ _, Nat.le_refl _, Nat.zero_le _⟩, h⟩
/-- where a round stands, but for the lanes -/
structure Ts (W0 W1 W : World) (lb rb mb : Nat) (cells : Array Value) (m : MailC) (A : Option Addr) (n cap : Nat) (os : List OpC) (n1 : Nat) (os1 : List OpC) : Prop where
  ops : OpsIs W (Two lb rb) A n cap os
  some : OpsIs W (Two lb rb) A n1 cap os1
  box : Bx0 W (Two lb rb) mb cells m
  low : Below W0.heap.size W0 W
  geL : W0.heap.size ≤ lb
  geR : W0.heap.size ≤ rb
  ltL : lb < W.heap.size
  ltR : rb < W.heap.size
  ne : lb ≠ rb
  from1 : Kept (Two lb rb) W1 W
section
variable {W0 W1 W W' : World} {lb rb mb : Nat} {cells : Array Value} {m : MailC} {A : Option Addr} {n cap : Nat} {os : List OpC} {n1 : Nat} {os1 : List OpC} {l l' : LaneC}
theorem Ts.kept (h : Ts W0 W1 W lb rb mb cells m A n cap os n1 os1) (hk : Kept (Two lb rb) W W') (hlow : Below W0.heap.size W W') : Ts W0 W1 W' lb rb mb cells m A n cap os n1 os1 :=
  ⟨h.ops.kept hk, h.some.kept hk, ⟨(hk.2 mb h.box.2.2 h.box.1.lt).trans h.box.1, h.box.2.1.kept hk, h.box.2.2⟩, h.low.trans hlow, h.geL, h.geR, Nat.lt_of_lt_of_le h.ltL hk.1, Nat.lt_of_lt_of_le h.ltR hk.1, h.ne, h.from1.trans hk⟩
theorem Ts.below (h : Ts W0 W1 W lb rb mb cells m A n cap os n1 os1) (hb : Below W.heap.size W W') : Ts W0 W1 W' lb rb mb cells m A n cap os n1 os1 := h.kept (Kept.of _ hb) (hb.mono h.low.size)
theorem Ts.turnL (h : Ts W0 W1 W lb rb mb cells m A n cap os n1 os1) (ht : Turn lb W W') : Ts W0 W1 W' lb rb mb cells m A n cap os n1 os1 := h.kept (ht.kept fun h => h.1 rfl) (ht.2.mono h.geL)
theorem Ts.turnR (h : Ts W0 W1 W lb rb mb cells m A n cap os n1 os1) (ht : Turn rb W W') : Ts W0 W1 W' lb rb mb cells m A n cap os n1 os1 := h.kept (ht.kept fun h => h.2 rfl) (ht.2.mono h.geR)
theorem Ts.away (h : Ts W0 W1 W lb rb mb cells m A n cap os n1 os1) {b : Nat} (hb : W.heap.size ≤ b) : Two lb rb b := by
  have h1 := h.ltL
  have h2 := h.ltR
  exact ⟨by omega, by omega⟩
theorem turn_ref (hne : lb ≠ rb) (ht : Turn lb W W') (h : RefIs W (Two lb rb) rb l) : RefIs W' (Two lb rb) rb l := h.kept (ht.kept fun h => h.1 rfl) (ht.1 rb h.lt (Ne.symm hne))
theorem turn_lane (hne : lb ≠ rb) (ht : Turn rb W W') (h : LaneIs W (Two lb rb) lb l) : LaneIs W' (Two lb rb) lb l := h.kept (ht.kept fun h => h.2 rfl) (ht.1 lb h.lt hne)
/-- what holds until the lanes are told -/
def NT (lb rb : Nat) (l : LaneC) (s : Nat) (W : World) : Prop := match s with
  | 15 => LaneIs W (Two lb rb) lb l
  | 19 => RefIs W (Two lb rb) rb l
  | _ => True
theorem keep_below {i : Nat} (hb : Below W.heap.size W W') : ∀ s ∈ [15, 19], s ≠ i → NT lb rb l s W → NT lb rb l s W' := by
  intro s hs _ h
  simp at hs
  rcases hs with rfl | rfl
  · exact LaneIs.below h hb
  · exact RefIs.below h hb
end

set_option maxRecDepth 100000 in
set_option maxHeartbeats 4000000 in
theorem takes14 {W0 W1 w : World} {lb rb mb : Nat} {cells : Array Value} {m : MailC} {A : Option Addr} {n cap : Nat} {os : List OpC} {n1 : Nat} {os1 : List OpC} {l : LaneC} {ep : Int} {sA : Option Addr} {sn sc k : Nat} (Q : Exit → Act → World → Prop) (a : Act) (hfr : Fr 142 a [(0, .int .i64 ep), (3, .slice A n cap), (11, .pointer (some ⟨lb, 0, none⟩)), (13, .pointer (some ⟨rb, 0, none⟩)), (15, .int .i64 (k : Nat)), (16, .pointer (some ⟨mb, 0, none⟩)), (17, .slice A n1 cap), (60, .slice sA sn sc), (61, .int .i64 (sn : Nat)), (62, .int .i64 (k : Nat))])
    (h : Ts W0 W1 w lb rb mb cells m A n cap os n1 os1) (hl : LaneIs w (Two lb rb) lb l) (hr : RefIs w (Two lb rb) rb l) (hs17 : cells.size = 17) (hok : m.Ok) (hsm : m.ops.length ≤ 4294967296) (hn : n1 ≤ 4294967296) (hn1 : os1.length = n1) (hos : ∀ c ∈ os1, c.Ok) (hnx : 0 ≤ l.next) (hoff : (offM l os1).Ok) (hz : (takeS l m os1).holes.length * 8 ≤ 140737488351232)
    (hQ : ∀ a' w', Fr 142 a' [(0, .int .i64 ep), (3, .slice A n cap), (11, .pointer (some ⟨lb, 0, none⟩)), (13, .pointer (some ⟨rb, 0, none⟩)), (15, .int .i64 (k : Nat)), (16, .pointer (some ⟨mb, 0, none⟩)), (17, .slice A n1 cap), (60, .slice sA sn sc), (61, .int .i64 (sn : Nat)), (62, .int .i64 (k : Nat)), (129, .bool false)] → Ts W0 W1 w' lb rb mb cells m A n cap os n1 os1 → LaneIs w' (Two lb rb) lb (takeS l m os1) → RefIs w' (Two lb rb) rb (takeS l m os1) → Q .normal a' w') :
    (part [1, 1, 1, 1, 1, 1, 0, 1, 0, 0, 1, 1, 0, 0, 1, 1, 1, 0, 0] (codeOf takesF)).wp Try.prog Q a w := by
  obtain ⟨l', hl'⟩ : ∃ l', l' = takeS l m os1 := ⟨_, rfl⟩
  rw [← hl'] at hz
  obtain ⟨hn, hhn⟩ : ∃ hn, hn = l'.holes.length := ⟨_, rfl⟩
  have HL2 := Lib.hid hl'.symm
  have HHN := Lib.hid hhn.symm
  have HZ := Lib.hid hz
  have HT := Lib.hid h
  have HLA := Lib.hid hl
  have HRE := Lib.hid hr
  have HS17 := Lib.hid hs17
  have HOK := Lib.hid hok
  have HSM := Lib.hid hsm
  have HN := Lib.hid ‹n1 ≤ 4294967296›
  have HN1 := Lib.hid hn1
  have HOS := Lib.hid hos
  have HNX := Lib.hid hnx
  have HOFF := Lib.hid hoff
  have HQ := Lib.hid hQ
  clear h hl hr hs17 hok hsm hn1 hos hnx hoff hQ hl' hhn hz
  obtain ⟨t, df⟩ := a
  obtain ⟨hd, hs, h0, h3, h11, h13, h15, h16, h17, h60, h61, h62, -⟩ := hfr
  simp only at hd hs h0 h3 h11 h13 h15 h16 h17 h60 h61 h62
  subst hd
  rw [eta142 t hs, h0, h3, h11, h13, h15, h16, h17, h60, h61, h62]
  clear hs h0 h3 h11 h13 h15 h16 h17 h60 h61 h62
  conv => arg 2; whnf
  refine wp_region_stage (by kernel_rfl) (fun i v W => match i with | 0 => v = .pointer (some ⟨lb, 0, none⟩) | 1 => v = .slice A n1 cap | 2 => ∃ A' c', v = .slice A' n1 c' ∧ OpsIs W (Two lb rb) A' n1 c' os1 | 3 => ∃ cs, v = .agg cs ∧ MailIs W (Two lb rb) cs (offM l os1) | 4 => v = .pointer (some ⟨rb, 0, none⟩) | 5 => v = .slice A n1 cap | 6 => ∃ cs, v = .agg cs ∧ MailIs W (Two lb rb) cs (offM l os1) | 7 => v = .bool true | 8 => v = .bool false | 9 => v = .bool false | 10 => v = .pointer (some ⟨lb, 0, none⟩) | 11 => v = .agg cells | 12 => ∃ cs, v = .agg cs ∧ MailIs W (Two lb rb) cs m | 13 => v = .slice A n1 cap | 14 => ∃ A' c', v = .slice A' n1 c' ∧ OpsIs W (Two lb rb) A' n1 c' os1 | 15 => v = .int .i64 (takeR m) ∧ LaneIs W (Two lb rb) lb l' | 16 => v = .pointer (some ⟨rb, 0, none⟩) | 17 => v = .agg cells | 18 => v = .slice A n1 cap | 19 => v = .int .i64 (takeR m) ∧ LaneIs W (Two lb rb) lb l' ∧ RefIs W (Two lb rb) rb l' | 20 => v = .bool false | 21 => v = .bool false | 22 => v = .bool false ∧ LaneIs W (Two lb rb) lb l' ∧ RefIs W (Two lb rb) rb l' | 23 => v = .pointer (some ⟨lb, 0, none⟩) | 24 => v = .int .i64 l'.next | 25 => v = .pointer (some ⟨rb, 0, none⟩) | 26 => v = .pointer (some ⟨rb, 0, none⟩) | 27 => v = .pointer (some ⟨rb, 2, none⟩) | 28 => v = .int .i64 l'.next | 29 => v = .bool false | 30 => v = .bool false ∧ LaneIs W (Two lb rb) lb l' ∧ RefIs W (Two lb rb) rb l' | 31 => v = .bool false ∧ LaneIs W (Two lb rb) lb l' ∧ RefIs W (Two lb rb) rb l' | 32 => v = .pointer (some ⟨lb, 0, none⟩) | 33 => v = .agg #[.int .i64 l'.mN, .int .i64 l'.mE] | 34 => v = .pointer (some ⟨rb, 0, none⟩) | 35 => v = .pointer (some ⟨rb, 0, none⟩) | 36 => v = .pointer (some ⟨rb, 3, none⟩) | 37 => v = .agg #[.int .i64 l'.mN, .int .i64 l'.mE] | 38 => v = .bool false | 39 => v = .bool false ∧ LaneIs W (Two lb rb) lb l' ∧ RefIs W (Two lb rb) rb l' | 40 => v = .bool false ∧ LaneIs W (Two lb rb) lb l' ∧ RefIs W (Two lb rb) rb l' | 41 => v = .pointer (some ⟨lb, 0, none⟩) | 42 => ∃ A' c', v = .agg #[.int .i64 l'.wN, .int .i64 l'.wE, .slice A' hn c'] ∧ IntIs W (Two lb rb) A' hn c' l'.holes | 43 => v = .pointer (some ⟨rb, 0, none⟩) | 44 => v = .pointer (some ⟨rb, 0, none⟩) | 45 => v = .pointer (some ⟨rb, 5, none⟩) | 46 => ∃ A' c', v = .agg #[.int .i64 l'.wN, .int .i64 l'.wE, .slice A' hn c'] ∧ IntIs W (Two lb rb) A' hn c' l'.holes | 47 => v = .bool true | 48 => v = .bool false | 49 => v = .bool false | _ => True) (fun W => Ts W0 W1 W lb rb mb cells m A n cap os n1 os1) (NT lb rb l) [15, 19] (fun s i => decide (i ≤ s)) (fun W W' => Kept (Two lb rb) W W' ∧ (LaneIs W (Two lb rb) lb l' → LaneIs W' (Two lb rb) lb l') ∧ (RefIs W (Two lb rb) rb l' → RefIs W' (Two lb rb) rb l')) (by kernel_rfl) (by kernel_rfl) ?hN ?hG ?hmono ?hstep ?hend
  case hN =>
    intro s hs
    simp at hs
    rcases hs with rfl | rfl
    · exact HLA.out.below ⟨rfl, rfl, rfl, Nat.le_refl _, fun _ _ => rfl⟩
    · exact HRE.out.below ⟨rfl, rfl, rfl, Nat.le_refl _, fun _ _ => rfl⟩
  case hG => exact HT.out.below ⟨rfl, rfl, rfl, Nat.le_refl _, fun _ _ => rfl⟩
  case hmono =>
    intro i v W W' hx hv
    match i with
    | 2 =>
      obtain ⟨A', c', rfl, ho⟩ := hv
      exact ⟨A', c', rfl, ho.kept hx.1⟩
    | 3 =>
      obtain ⟨cs, rfl, hm⟩ := hv
      exact ⟨cs, rfl, hm.kept hx.1⟩
    | 6 =>
      obtain ⟨cs, rfl, hm⟩ := hv
      exact ⟨cs, rfl, hm.kept hx.1⟩
    | 12 =>
      obtain ⟨cs, rfl, hm⟩ := hv
      exact ⟨cs, rfl, hm.kept hx.1⟩
    | 14 =>
      obtain ⟨A', c', rfl, ho⟩ := hv
      exact ⟨A', c', rfl, ho.kept hx.1⟩
    | 15 =>
      exact ⟨hv.1, hx.2.1 hv.2⟩
    | 19 =>
      exact ⟨hv.1, hx.2.1 hv.2.1, hx.2.2 hv.2.2⟩
    | 22 =>
      exact ⟨hv.1, hx.2.1 hv.2.1, hx.2.2 hv.2.2⟩
    | 30 =>
      exact ⟨hv.1, hx.2.1 hv.2.1, hx.2.2 hv.2.2⟩
    | 31 =>
      exact ⟨hv.1, hx.2.1 hv.2.1, hx.2.2 hv.2.2⟩
    | 39 =>
      exact ⟨hv.1, hx.2.1 hv.2.1, hx.2.2 hv.2.2⟩
    | 40 =>
      exact ⟨hv.1, hx.2.1 hv.2.1, hx.2.2 hv.2.2⟩
    | 42 =>
      obtain ⟨A', c', rfl, hi⟩ := hv
      exact ⟨A', c', rfl, hi.kept hx.1⟩
    | 46 =>
      obtain ⟨A', c', rfl, hi⟩ := hv
      exact ⟨A', c', rfl, hi.kept hx.1⟩
    | 0 | 1 | 4 | 5 | 7 | 8 | 9 | 10 | 11 | 13 | 16 | 17 | 18 | 20 | 21 | 23 | 24 | 25 | 26 | 27 | 28 | 29 | 32 | 33 | 34 | 35 | 36 | 37 | 38 | 41 | 43 | 44 | 45 | 47 | 48 | 49 => exact hv
    | i + 50 => exact hv
  case hstep =>
    intro i o F U W ho hGW hNs hat hoff hp
    have hrefl := fun W : World => (⟨Kept.refl _ _, id, id⟩ : Kept (Two lb rb) W W ∧ (LaneIs W (Two lb rb) lb l' → LaneIs W (Two lb rb) lb l') ∧ (RefIs W (Two lb rb) rb l' → RefIs W (Two lb rb) rb l'))
    match i with
      | 0 =>
        injection (show some _ = some o from ho) with ho
        subst ho
        refine on_ (wanted_none rfl) ?_
        have e11 : F.eval (.tmp 11) = .pointer (some ⟨lb, 0, none⟩) := (hoff 11 (of_decide_eq_true (by kernel_rfl))).trans rfl
        exact wp_move' (.tmp 11) rfl ⟨_, rfl, e11, hGW, hrefl W, fun _ _ _ h => h⟩
      | 1 =>
        injection (show some _ = some o from ho) with ho
        subst ho
        refine on_ (wanted_none rfl) ?_
        have e17 : F.eval (.tmp 17) = .slice A n1 cap := (hoff 17 (of_decide_eq_true (by kernel_rfl))).trans rfl
        exact wp_move' (.tmp 17) rfl ⟨_, rfl, e17, hGW, hrefl W, fun _ _ _ h => h⟩
      | 2 =>
        injection (show some _ = some o from ho) with ho
        subst ho
        refine on_ (wanted_none rfl) ?_
        have e81 : F.eval (.tmp 81) = .slice A n1 cap := (hat 1 81 (of_decide_eq_true (by kernel_rfl)) rfl).trans (hp ⟨1, .data⟩ (by simp) rfl : U 1 = .slice A n1 cap)
        have t81 := act_tmp e81
        clear hat hoff hp
        refine wp_enter' 34 #[.slice A n1 cap] (by unfold execOp; go_simp) ?_
        refine (ownOps_any A n1 cap os1 W hGW.some HN.out HOS.out).mono ?_
        rintro e W' ⟨A', c', rfl, ho, hb⟩
        exact ⟨_, rfl, _, rfl, ⟨A', c', rfl, ho.mono fun b _ h => hGW.away (show W.heap.size ≤ b from h)⟩, hGW.below hb, ⟨Kept.of _ hb, fun h => h.below hb, fun h => h.below hb⟩, keep_below hb⟩
      | 3 =>
        injection (show some _ = some o from ho) with ho
        subst ho
        refine on_ (wanted_none rfl) ?_
        have e80 : F.eval (.tmp 80) = .pointer (some ⟨lb, 0, none⟩) := (hat 0 80 (of_decide_eq_true (by kernel_rfl)) rfl).trans (hp ⟨0, .data⟩ (by simp) rfl : U 0 = .pointer (some ⟨lb, 0, none⟩))
        have t80 := act_tmp e80
        have e82 := hat 2 82 (of_decide_eq_true (by kernel_rfl)) rfl
        have v82 := hp ⟨2, .data⟩ (by simp) rfl
        clear hat hoff hp
        obtain ⟨A', c', h82, ho⟩ := v82
        rw [h82] at e82
        have t82 := act_tmp e82
        have hl : LaneIs W (Two lb rb) lb l := hNs 15 (by simp) (by decide)
        refine wp_enter' 26 #[.pointer (some ⟨lb, 0, none⟩), .slice A' n1 c'] (by unfold execOp; go_simp) ?_
        refine (offerL_any lb l os1 W _ _ (offN HNX.out) rfl hl ho HN.out HOS.out).mono ?_
        rintro e W' ⟨A2, c2, rfl, ho2, hb⟩
        exact ⟨_, rfl, _, rfl, ⟨_, rfl, offM_is HN1.out (ho2.mono fun b _ h => hGW.away (show W.heap.size ≤ b from h))⟩, hGW.below hb, ⟨Kept.of _ hb, fun h => h.below hb, fun h => h.below hb⟩, keep_below hb⟩
      | 4 =>
        injection (show some _ = some o from ho) with ho
        subst ho
        refine on_ (wanted_none rfl) ?_
        have e13 : F.eval (.tmp 13) = .pointer (some ⟨rb, 0, none⟩) := (hoff 13 (of_decide_eq_true (by kernel_rfl))).trans rfl
        exact wp_move' (.tmp 13) rfl ⟨_, rfl, e13, hGW, hrefl W, fun _ _ _ h => h⟩
      | 5 =>
        injection (show some _ = some o from ho) with ho
        subst ho
        refine on_ (wanted_none rfl) ?_
        have e17 : F.eval (.tmp 17) = .slice A n1 cap := (hoff 17 (of_decide_eq_true (by kernel_rfl))).trans rfl
        exact wp_move' (.tmp 17) rfl ⟨_, rfl, e17, hGW, hrefl W, fun _ _ _ h => h⟩
      | 6 =>
        injection (show some _ = some o from ho) with ho
        subst ho
        refine on_ (wanted_none rfl) ?_
        have e84 : F.eval (.tmp 84) = .pointer (some ⟨rb, 0, none⟩) := (hat 4 84 (of_decide_eq_true (by kernel_rfl)) rfl).trans (hp ⟨4, .data⟩ (by simp) rfl : U 4 = .pointer (some ⟨rb, 0, none⟩))
        have t84 := act_tmp e84
        have e85 : F.eval (.tmp 85) = .slice A n1 cap := (hat 5 85 (of_decide_eq_true (by kernel_rfl)) rfl).trans (hp ⟨5, .data⟩ (by simp) rfl : U 5 = .slice A n1 cap)
        have t85 := act_tmp e85
        clear hat hoff hp
        have hl : RefIs W (Two lb rb) rb l := hNs 19 (by simp) (by decide)
        refine wp_enter' 37 #[.pointer (some ⟨rb, 0, none⟩), .slice A n1 cap] (by unfold execOp; go_simp) ?_
        refine (rofferL_any rb l os1 W _ _ (offN HNX.out) rfl hl hGW.some HN.out HOS.out).mono ?_
        rintro e W' ⟨A2, c2, rfl, ho2, hb⟩
        exact ⟨_, rfl, _, rfl, ⟨_, rfl, offM_is HN1.out (ho2.mono fun b _ h => hGW.away (show W.heap.size ≤ b from h))⟩, hGW.below hb, ⟨Kept.of _ hb, fun h => h.below hb, fun h => h.below hb⟩, keep_below hb⟩
      | 7 =>
        injection (show some _ = some o from ho) with ho
        subst ho
        refine on_ (wanted_none rfl) ?_
        have e83 := hat 3 83 (of_decide_eq_true (by kernel_rfl)) rfl
        have v83 := hp ⟨3, .data⟩ (by simp) rfl
        have e86 := hat 6 86 (of_decide_eq_true (by kernel_rfl)) rfl
        have v86 := hp ⟨6, .data⟩ (by simp) rfl
        clear hat hoff hp
        obtain ⟨cs1, h83, hm1⟩ := v83
        rw [h83] at e83
        have t83 := act_tmp e83
        obtain ⟨cs2, h86, hm2⟩ := v86
        rw [h86] at e86
        have t86 := act_tmp e86
        refine wp_enter' 19 #[.agg cs1, .agg cs2] (by unfold execOp; go_simp) ?_
        refine (same15_any cs1 cs2 _ W hm1 hm2 HOFF.out).mono ?_
        rintro e W' ⟨rfl, hb⟩
        exact ⟨_, rfl, _, rfl, rfl, hGW.below hb, ⟨Kept.of _ hb, fun h => h.below hb, fun h => h.below hb⟩, keep_below hb⟩
      | 8 =>
        injection (show some _ = some o from ho) with ho
        subst ho
        refine on_ (wanted_none rfl) ?_
        have e87 : F.eval (.tmp 87) = .bool true := (hat 7 87 (of_decide_eq_true (by kernel_rfl)) rfl).trans (hp ⟨7, .data⟩ (by simp) rfl : U 7 = .bool true)
        have t87 := act_tmp e87
        clear hat hoff hp
        exact wp_value' (.bool false) W (by unfold execOp; go_simp) ⟨_, rfl, rfl, hGW, hrefl W, fun _ _ _ h => h⟩
      | 9 =>
        injection (show some _ = some o from ho) with ho
        subst ho
        refine on_ (wanted_none rfl) ?_
        have e88 : F.eval (.tmp 88) = .bool false := (hat 8 88 (of_decide_eq_true (by kernel_rfl)) rfl).trans (hp ⟨8, .data⟩ (by simp) rfl : U 8 = .bool false)
        exact wp_move' (.tmp 88) rfl ⟨_, rfl, e88, hGW, hrefl W, fun _ _ _ h => h⟩
      | 10 =>
        injection (show some _ = some o from ho) with ho
        subst ho
        have eg : F.eval (.tmp 89) = .bool false := (hat 9 89 (of_decide_eq_true (by kernel_rfl)) rfl).trans (hp ⟨9, .guard⟩ (by simp) rfl : U 9 = .bool false)
        refine on_ ((wanted_by rfl rfl eg).trans rfl) ?_
        have e11 : F.eval (.tmp 11) = .pointer (some ⟨lb, 0, none⟩) := (hoff 11 (of_decide_eq_true (by kernel_rfl))).trans rfl
        exact wp_move' (.tmp 11) rfl ⟨_, rfl, e11, hGW, hrefl W, fun _ _ _ h => h⟩
      | 11 =>
        injection (show some _ = some o from ho) with ho
        subst ho
        have eg : F.eval (.tmp 89) = .bool false := (hat 9 89 (of_decide_eq_true (by kernel_rfl)) rfl).trans (hp ⟨9, .guard⟩ (by simp) rfl : U 9 = .bool false)
        refine on_ ((wanted_by rfl rfl eg).trans rfl) ?_
        have e16 : F.eval (.tmp 16) = .pointer (some ⟨mb, 0, none⟩) := (hoff 16 (of_decide_eq_true (by kernel_rfl))).trans rfl
        have t16 := act_tmp e16
        clear hat hoff hp
        refine wp_load_mid 30 (.tmp 16) rfl mb 0 e16 _ _ hGW.box.1.range Try.underlying30 rfl (by rw [Array.length_toList, HS17.out]; exact Try.sizeMail) ?_
        exact ⟨_, rfl, rfl, hGW, hrefl W, fun _ _ _ h => h⟩
      | 12 =>
        injection (show some _ = some o from ho) with ho
        subst ho
        have eg : F.eval (.tmp 89) = .bool false := (hat 9 89 (of_decide_eq_true (by kernel_rfl)) rfl).trans (hp ⟨9, .guard⟩ (by simp) rfl : U 9 = .bool false)
        refine on_ ((wanted_by rfl rfl eg).trans rfl) ?_
        have e91 : F.eval (.tmp 91) = .agg cells := (hat 11 91 (of_decide_eq_true (by kernel_rfl)) rfl).trans (hp ⟨11, .data⟩ (by simp) rfl : U 11 = .agg cells)
        have t91 := act_tmp e91
        clear hat hoff hp
        refine wp_enter' 17 #[.agg cells] (by unfold execOp; go_simp) ?_
        refine (own15_any cells m W hGW.box.2.1 HOK.out HSM.out).mono ?_
        rintro e W' ⟨cs, rfl, hm, hb⟩
        exact ⟨_, rfl, _, rfl, ⟨cs, rfl, hm.mono fun b _ h => hGW.away (show W.heap.size ≤ b from h)⟩, hGW.below hb, ⟨Kept.of _ hb, fun h => h.below hb, fun h => h.below hb⟩, keep_below hb⟩
      | 13 =>
        injection (show some _ = some o from ho) with ho
        subst ho
        have eg : F.eval (.tmp 89) = .bool false := (hat 9 89 (of_decide_eq_true (by kernel_rfl)) rfl).trans (hp ⟨9, .guard⟩ (by simp) rfl : U 9 = .bool false)
        refine on_ ((wanted_by rfl rfl eg).trans rfl) ?_
        have e17 : F.eval (.tmp 17) = .slice A n1 cap := (hoff 17 (of_decide_eq_true (by kernel_rfl))).trans rfl
        exact wp_move' (.tmp 17) rfl ⟨_, rfl, e17, hGW, hrefl W, fun _ _ _ h => h⟩
      | 14 =>
        injection (show some _ = some o from ho) with ho
        subst ho
        have eg : F.eval (.tmp 89) = .bool false := (hat 9 89 (of_decide_eq_true (by kernel_rfl)) rfl).trans (hp ⟨9, .guard⟩ (by simp) rfl : U 9 = .bool false)
        refine on_ ((wanted_by rfl rfl eg).trans rfl) ?_
        have e93 : F.eval (.tmp 93) = .slice A n1 cap := (hat 13 93 (of_decide_eq_true (by kernel_rfl)) rfl).trans (hp ⟨13, .data⟩ (by simp) rfl : U 13 = .slice A n1 cap)
        have t93 := act_tmp e93
        clear hat hoff hp
        refine wp_enter' 34 #[.slice A n1 cap] (by unfold execOp; go_simp) ?_
        refine (ownOps_any A n1 cap os1 W hGW.some HN.out HOS.out).mono ?_
        rintro e W' ⟨A', c', rfl, ho, hb⟩
        exact ⟨_, rfl, _, rfl, ⟨A', c', rfl, ho.mono fun b _ h => hGW.away (show W.heap.size ≤ b from h)⟩, hGW.below hb, ⟨Kept.of _ hb, fun h => h.below hb, fun h => h.below hb⟩, keep_below hb⟩
      | 15 =>
        injection (show some _ = some o from ho) with ho
        subst ho
        have eg : F.eval (.tmp 89) = .bool false := (hat 9 89 (of_decide_eq_true (by kernel_rfl)) rfl).trans (hp ⟨9, .guard⟩ (by simp) rfl : U 9 = .bool false)
        refine on_ ((wanted_by rfl rfl eg).trans rfl) ?_
        have e90 : F.eval (.tmp 90) = .pointer (some ⟨lb, 0, none⟩) := (hat 10 90 (of_decide_eq_true (by kernel_rfl)) rfl).trans (hp ⟨10, .data⟩ (by simp) rfl : U 10 = .pointer (some ⟨lb, 0, none⟩))
        have t90 := act_tmp e90
        have e92 := hat 12 92 (of_decide_eq_true (by kernel_rfl)) rfl
        have v92 := hp ⟨12, .data⟩ (by simp) rfl
        have e94 := hat 14 94 (of_decide_eq_true (by kernel_rfl)) rfl
        have v94 := hp ⟨14, .data⟩ (by simp) rfl
        have hl : LaneIs W (Two lb rb) lb l := hNs 15 (by simp) (by decide)
        clear hat hoff hp
        obtain ⟨cs, h92, hm⟩ := v92
        rw [h92] at e92
        have t92 := act_tmp e92
        obtain ⟨A', c', h94, ho⟩ := v94
        rw [h94] at e94
        have t94 := act_tmp e94
        refine wp_enter' 28 #[.pointer (some ⟨lb, 0, none⟩), .agg cs, .slice A' n1 c'] (by unfold execOp; go_simp) ?_
        refine (takeL_any (S := (Two lb rb)) lb l cs m os1 W (fun h => h.1 rfl) (fun b hb => hGW.away hb) hl hm HOK.out ho HN.out).mono ?_
        rintro e W' ⟨rfl, hl2, ht⟩
        rw [HL2.out] at hl2
        exact ⟨_, rfl, _, rfl, ⟨rfl, hl2⟩, hGW.turnL ht, ⟨ht.kept fun h => h.1 rfl, fun _ => hl2, fun h => turn_ref hGW.ne ht h⟩, fun s hs hne h => by simp at hs; rcases hs with rfl | rfl; exact absurd rfl hne; exact turn_ref hGW.ne ht h⟩
      | 16 =>
        injection (show some _ = some o from ho) with ho
        subst ho
        have eg : F.eval (.tmp 89) = .bool false := (hat 9 89 (of_decide_eq_true (by kernel_rfl)) rfl).trans (hp ⟨9, .guard⟩ (by simp) rfl : U 9 = .bool false)
        refine on_ ((wanted_by rfl rfl eg).trans rfl) ?_
        have e13 : F.eval (.tmp 13) = .pointer (some ⟨rb, 0, none⟩) := (hoff 13 (of_decide_eq_true (by kernel_rfl))).trans rfl
        exact wp_move' (.tmp 13) rfl ⟨_, rfl, e13, hGW, hrefl W, fun _ _ _ h => h⟩
      | 17 =>
        injection (show some _ = some o from ho) with ho
        subst ho
        have eg : F.eval (.tmp 89) = .bool false := (hat 9 89 (of_decide_eq_true (by kernel_rfl)) rfl).trans (hp ⟨9, .guard⟩ (by simp) rfl : U 9 = .bool false)
        refine on_ ((wanted_by rfl rfl eg).trans rfl) ?_
        have e16 : F.eval (.tmp 16) = .pointer (some ⟨mb, 0, none⟩) := (hoff 16 (of_decide_eq_true (by kernel_rfl))).trans rfl
        have t16 := act_tmp e16
        clear hat hoff hp
        refine wp_load_mid 30 (.tmp 16) rfl mb 0 e16 _ _ hGW.box.1.range Try.underlying30 rfl (by rw [Array.length_toList, HS17.out]; exact Try.sizeMail) ?_
        exact ⟨_, rfl, rfl, hGW, hrefl W, fun _ _ _ h => h⟩
      | 18 =>
        injection (show some _ = some o from ho) with ho
        subst ho
        have eg : F.eval (.tmp 89) = .bool false := (hat 9 89 (of_decide_eq_true (by kernel_rfl)) rfl).trans (hp ⟨9, .guard⟩ (by simp) rfl : U 9 = .bool false)
        refine on_ ((wanted_by rfl rfl eg).trans rfl) ?_
        have e17 : F.eval (.tmp 17) = .slice A n1 cap := (hoff 17 (of_decide_eq_true (by kernel_rfl))).trans rfl
        exact wp_move' (.tmp 17) rfl ⟨_, rfl, e17, hGW, hrefl W, fun _ _ _ h => h⟩
      | 19 =>
        injection (show some _ = some o from ho) with ho
        subst ho
        have eg : F.eval (.tmp 89) = .bool false := (hat 9 89 (of_decide_eq_true (by kernel_rfl)) rfl).trans (hp ⟨9, .guard⟩ (by simp) rfl : U 9 = .bool false)
        refine on_ ((wanted_by rfl rfl eg).trans rfl) ?_
        have e96 : F.eval (.tmp 96) = .pointer (some ⟨rb, 0, none⟩) := (hat 16 96 (of_decide_eq_true (by kernel_rfl)) rfl).trans (hp ⟨16, .data⟩ (by simp) rfl : U 16 = .pointer (some ⟨rb, 0, none⟩))
        have t96 := act_tmp e96
        have e97 : F.eval (.tmp 97) = .agg cells := (hat 17 97 (of_decide_eq_true (by kernel_rfl)) rfl).trans (hp ⟨17, .data⟩ (by simp) rfl : U 17 = .agg cells)
        have t97 := act_tmp e97
        have e98 : F.eval (.tmp 98) = .slice A n1 cap := (hat 18 98 (of_decide_eq_true (by kernel_rfl)) rfl).trans (hp ⟨18, .data⟩ (by simp) rfl : U 18 = .slice A n1 cap)
        have t98 := act_tmp e98
        have hl : RefIs W (Two lb rb) rb l := hNs 19 (by simp) (by decide)
        have xl := (hp ⟨15, .chain⟩ (by simp) rfl).2
        clear hat hoff hp
        refine wp_enter' 38 #[.pointer (some ⟨rb, 0, none⟩), .agg cells, .slice A n1 cap] (by unfold execOp; go_simp) ?_
        refine (rtakeL_any (S := (Two lb rb)) rb l cells m os1 W (fun h => h.2 rfl) (fun b hb => hGW.away hb) hl hGW.box.2.1 HOK.out hGW.some HN.out).mono ?_
        rintro e W' ⟨rfl, hl2, ht⟩
        rw [HL2.out] at hl2
        exact ⟨_, rfl, _, rfl, ⟨rfl, turn_lane hGW.ne ht xl, hl2⟩, hGW.turnR ht, ⟨ht.kept fun h => h.2 rfl, fun h => turn_lane hGW.ne ht h, fun _ => hl2⟩, fun s hs hne h => by simp at hs; rcases hs with rfl | rfl; exact turn_lane hGW.ne ht h; exact absurd rfl hne⟩
      | 20 =>
        injection (show some _ = some o from ho) with ho
        subst ho
        have eg : F.eval (.tmp 89) = .bool false := (hat 9 89 (of_decide_eq_true (by kernel_rfl)) rfl).trans (hp ⟨9, .guard⟩ (by simp) rfl : U 9 = .bool false)
        refine on_ ((wanted_by rfl rfl eg).trans rfl) ?_
        have e95 : F.eval (.tmp 95) = .int .i64 (takeR m) := (hat 15 95 (of_decide_eq_true (by kernel_rfl)) rfl).trans (hp ⟨15, .data⟩ (by simp) rfl).1
        have t95 := act_tmp e95
        have x95 := (hp ⟨15, .data⟩ (by simp) rfl).2
        have e99 : F.eval (.tmp 99) = .int .i64 (takeR m) := (hat 19 99 (of_decide_eq_true (by kernel_rfl)) rfl).trans (hp ⟨19, .data⟩ (by simp) rfl).1
        have t99 := act_tmp e99
        have x99 := (hp ⟨19, .data⟩ (by simp) rfl).2
        clear hat hoff hp
        exact wp_value' (.bool false) W (by unfold execOp; go_simp) ⟨_, rfl, rfl, hGW, hrefl W, fun _ _ _ h => h⟩
      | 21 =>
        injection (show some _ = some o from ho) with ho
        subst ho
        refine on_ (wanted_none rfl) ?_
        have e89 : F.eval (.tmp 89) = .bool false := (hat 9 89 (of_decide_eq_true (by kernel_rfl)) rfl).trans (hp ⟨9, .data⟩ (by simp) rfl : U 9 = .bool false)
        have t89 := act_tmp e89
        have e100 : F.eval (.tmp 100) = .bool false := (hat 20 100 (of_decide_eq_true (by kernel_rfl)) rfl).trans (hp ⟨20, .data⟩ (by simp) rfl : U 20 = .bool false)
        have t100 := act_tmp e100
        clear hat hoff hp
        exact wp_value' (.bool false) W (by unfold execOp; go_simp) ⟨_, rfl, rfl, hGW, hrefl W, fun _ _ _ h => h⟩
      | 22 =>
        injection (show some _ = some o from ho) with ho
        subst ho
        refine on_ (wanted_none rfl) ?_
        have e101 : F.eval (.tmp 101) = .bool false := (hat 21 101 (of_decide_eq_true (by kernel_rfl)) rfl).trans (hp ⟨21, .data⟩ (by simp) rfl : U 21 = .bool false)
        have t101 := act_tmp e101
        have xx := (hp ⟨19, .chain⟩ (by simp) rfl).2
        exact wp_move' (.tmp 101) rfl ⟨_, rfl, ⟨e101, xx⟩, hGW, hrefl W, fun _ _ _ h => h⟩
      | 23 =>
        injection (show some _ = some o from ho) with ho
        subst ho
        have eg : F.eval (.tmp 102) = .bool false := (hat 22 102 (of_decide_eq_true (by kernel_rfl)) rfl).trans (hp ⟨22, .guard⟩ (by simp) rfl).1
        have xg := (hp ⟨22, .guard⟩ (by simp) rfl).2
        refine on_ ((wanted_by rfl rfl eg).trans rfl) ?_
        have e11 : F.eval (.tmp 11) = .pointer (some ⟨lb, 0, none⟩) := (hoff 11 (of_decide_eq_true (by kernel_rfl))).trans rfl
        exact wp_move' (.tmp 11) rfl ⟨_, rfl, e11, hGW, hrefl W, fun _ _ _ h => h⟩
      | 24 =>
        injection (show some _ = some o from ho) with ho
        subst ho
        have eg : F.eval (.tmp 102) = .bool false := (hat 22 102 (of_decide_eq_true (by kernel_rfl)) rfl).trans (hp ⟨22, .guard⟩ (by simp) rfl).1
        have xg := (hp ⟨22, .guard⟩ (by simp) rfl).2
        refine on_ ((wanted_by rfl rfl eg).trans rfl) ?_
        have e103 : F.eval (.tmp 103) = .pointer (some ⟨lb, 0, none⟩) := (hat 23 103 (of_decide_eq_true (by kernel_rfl)) rfl).trans (hp ⟨23, .data⟩ (by simp) rfl : U 23 = .pointer (some ⟨lb, 0, none⟩))
        have t103 := act_tmp e103
        clear hat hoff hp
        refine wp_enter' 33 #[.pointer (some ⟨lb, 0, none⟩)] (by unfold execOp; go_simp) ?_
        refine (nextL_any lb l' W xg.1).mono ?_
        rintro e W' ⟨rfl, rfl⟩
        exact ⟨_, rfl, _, rfl, rfl, hGW, hrefl _, fun _ _ _ h => h⟩
      | 25 =>
        injection (show some _ = some o from ho) with ho
        subst ho
        have eg : F.eval (.tmp 102) = .bool false := (hat 22 102 (of_decide_eq_true (by kernel_rfl)) rfl).trans (hp ⟨22, .guard⟩ (by simp) rfl).1
        have xg := (hp ⟨22, .guard⟩ (by simp) rfl).2
        refine on_ ((wanted_by rfl rfl eg).trans rfl) ?_
        have e13 : F.eval (.tmp 13) = .pointer (some ⟨rb, 0, none⟩) := (hoff 13 (of_decide_eq_true (by kernel_rfl))).trans rfl
        exact wp_move' (.tmp 13) rfl ⟨_, rfl, e13, hGW, hrefl W, fun _ _ _ h => h⟩
      | 26 =>
        injection (show some _ = some o from ho) with ho
        subst ho
        have eg : F.eval (.tmp 102) = .bool false := (hat 22 102 (of_decide_eq_true (by kernel_rfl)) rfl).trans (hp ⟨22, .guard⟩ (by simp) rfl).1
        have xg := (hp ⟨22, .guard⟩ (by simp) rfl).2
        refine on_ ((wanted_by rfl rfl eg).trans rfl) ?_
        have e105 : F.eval (.tmp 105) = .pointer (some ⟨rb, 0, none⟩) := (hat 25 105 (of_decide_eq_true (by kernel_rfl)) rfl).trans (hp ⟨25, .data⟩ (by simp) rfl : U 25 = .pointer (some ⟨rb, 0, none⟩))
        have t105 := act_tmp e105
        clear hat hoff hp
        exact wp_value' (.pointer (some ⟨rb, 0, none⟩)) W (by unfold execOp; go_simp) ⟨_, rfl, rfl, hGW, hrefl W, fun _ _ _ h => h⟩
      | 27 =>
        injection (show some _ = some o from ho) with ho
        subst ho
        have eg : F.eval (.tmp 102) = .bool false := (hat 22 102 (of_decide_eq_true (by kernel_rfl)) rfl).trans (hp ⟨22, .guard⟩ (by simp) rfl).1
        have xg := (hp ⟨22, .guard⟩ (by simp) rfl).2
        refine on_ ((wanted_by rfl rfl eg).trans rfl) ?_
        have e106 : F.eval (.tmp 106) = .pointer (some ⟨rb, 0, none⟩) := (hat 26 106 (of_decide_eq_true (by kernel_rfl)) rfl).trans (hp ⟨26, .data⟩ (by simp) rfl : U 26 = .pointer (some ⟨rb, 0, none⟩))
        have t106 := act_tmp e106
        clear hat hoff hp
        exact wp_value' (.pointer (some ⟨rb, 2, none⟩)) W (by unfold execOp; go_simp) ⟨_, rfl, rfl, hGW, hrefl W, fun _ _ _ h => h⟩
      | 28 =>
        injection (show some _ = some o from ho) with ho
        subst ho
        have eg : F.eval (.tmp 102) = .bool false := (hat 22 102 (of_decide_eq_true (by kernel_rfl)) rfl).trans (hp ⟨22, .guard⟩ (by simp) rfl).1
        have xg := (hp ⟨22, .guard⟩ (by simp) rfl).2
        refine on_ ((wanted_by rfl rfl eg).trans rfl) ?_
        have e107 : F.eval (.tmp 107) = .pointer (some ⟨rb, 2, none⟩) := (hat 27 107 (of_decide_eq_true (by kernel_rfl)) rfl).trans (hp ⟨27, .data⟩ (by simp) rfl : U 27 = .pointer (some ⟨rb, 2, none⟩))
        have t107 := act_tmp e107
        clear hat hoff hp
        obtain ⟨oA, on, oc, kl, ki⟩ := xg.2
        have d0 := kl.cell 2
        simp at d0
        exact wp_value' (.int .i64 l'.next) W (by unfold execOp; go_simp) ⟨_, rfl, rfl, hGW, hrefl W, fun _ _ _ h => h⟩
      | 29 =>
        injection (show some _ = some o from ho) with ho
        subst ho
        have eg : F.eval (.tmp 102) = .bool false := (hat 22 102 (of_decide_eq_true (by kernel_rfl)) rfl).trans (hp ⟨22, .guard⟩ (by simp) rfl).1
        have xg := (hp ⟨22, .guard⟩ (by simp) rfl).2
        refine on_ ((wanted_by rfl rfl eg).trans rfl) ?_
        have e104 : F.eval (.tmp 104) = .int .i64 l'.next := (hat 24 104 (of_decide_eq_true (by kernel_rfl)) rfl).trans (hp ⟨24, .data⟩ (by simp) rfl : U 24 = .int .i64 l'.next)
        have t104 := act_tmp e104
        have e108 : F.eval (.tmp 108) = .int .i64 l'.next := (hat 28 108 (of_decide_eq_true (by kernel_rfl)) rfl).trans (hp ⟨28, .data⟩ (by simp) rfl : U 28 = .int .i64 l'.next)
        have t108 := act_tmp e108
        clear hat hoff hp
        exact wp_value' (.bool false) W (by unfold execOp; go_simp) ⟨_, rfl, rfl, hGW, hrefl W, fun _ _ _ h => h⟩
      | 30 =>
        injection (show some _ = some o from ho) with ho
        subst ho
        refine on_ (wanted_none rfl) ?_
        have e102 : F.eval (.tmp 102) = .bool false := (hat 22 102 (of_decide_eq_true (by kernel_rfl)) rfl).trans (hp ⟨22, .data⟩ (by simp) rfl).1
        have t102 := act_tmp e102
        have x102 := (hp ⟨22, .data⟩ (by simp) rfl).2
        have e109 : F.eval (.tmp 109) = .bool false := (hat 29 109 (of_decide_eq_true (by kernel_rfl)) rfl).trans (hp ⟨29, .data⟩ (by simp) rfl : U 29 = .bool false)
        have t109 := act_tmp e109
        clear hat hoff hp
        exact wp_value' (.bool false) W (by unfold execOp; go_simp) ⟨_, rfl, ⟨rfl, x102⟩, hGW, hrefl W, fun _ _ _ h => h⟩
      | 31 =>
        injection (show some _ = some o from ho) with ho
        subst ho
        refine on_ (wanted_none rfl) ?_
        have e110 : F.eval (.tmp 110) = .bool false := (hat 30 110 (of_decide_eq_true (by kernel_rfl)) rfl).trans (hp ⟨30, .data⟩ (by simp) rfl).1
        have t110 := act_tmp e110
        have x110 := (hp ⟨30, .data⟩ (by simp) rfl).2
        exact wp_move' (.tmp 110) rfl ⟨_, rfl, ⟨e110, x110⟩, hGW, hrefl W, fun _ _ _ h => h⟩
      | 32 =>
        injection (show some _ = some o from ho) with ho
        subst ho
        have eg : F.eval (.tmp 111) = .bool false := (hat 31 111 (of_decide_eq_true (by kernel_rfl)) rfl).trans (hp ⟨31, .guard⟩ (by simp) rfl).1
        have xg := (hp ⟨31, .guard⟩ (by simp) rfl).2
        refine on_ ((wanted_by rfl rfl eg).trans rfl) ?_
        have e11 : F.eval (.tmp 11) = .pointer (some ⟨lb, 0, none⟩) := (hoff 11 (of_decide_eq_true (by kernel_rfl))).trans rfl
        exact wp_move' (.tmp 11) rfl ⟨_, rfl, e11, hGW, hrefl W, fun _ _ _ h => h⟩
      | 33 =>
        injection (show some _ = some o from ho) with ho
        subst ho
        have eg : F.eval (.tmp 111) = .bool false := (hat 31 111 (of_decide_eq_true (by kernel_rfl)) rfl).trans (hp ⟨31, .guard⟩ (by simp) rfl).1
        have xg := (hp ⟨31, .guard⟩ (by simp) rfl).2
        refine on_ ((wanted_by rfl rfl eg).trans rfl) ?_
        have e112 : F.eval (.tmp 112) = .pointer (some ⟨lb, 0, none⟩) := (hat 32 112 (of_decide_eq_true (by kernel_rfl)) rfl).trans (hp ⟨32, .data⟩ (by simp) rfl : U 32 = .pointer (some ⟨lb, 0, none⟩))
        have t112 := act_tmp e112
        clear hat hoff hp
        refine wp_enter' 29 #[.pointer (some ⟨lb, 0, none⟩)] (by unfold execOp; go_simp) ?_
        refine (markL_any lb l' W xg.1).mono ?_
        rintro e W' ⟨rfl, hb⟩
        exact ⟨_, rfl, _, rfl, rfl, hGW.below hb, ⟨Kept.of _ hb, fun h => h.below hb, fun h => h.below hb⟩, keep_below hb⟩
      | 34 =>
        injection (show some _ = some o from ho) with ho
        subst ho
        have eg : F.eval (.tmp 111) = .bool false := (hat 31 111 (of_decide_eq_true (by kernel_rfl)) rfl).trans (hp ⟨31, .guard⟩ (by simp) rfl).1
        have xg := (hp ⟨31, .guard⟩ (by simp) rfl).2
        refine on_ ((wanted_by rfl rfl eg).trans rfl) ?_
        have e13 : F.eval (.tmp 13) = .pointer (some ⟨rb, 0, none⟩) := (hoff 13 (of_decide_eq_true (by kernel_rfl))).trans rfl
        exact wp_move' (.tmp 13) rfl ⟨_, rfl, e13, hGW, hrefl W, fun _ _ _ h => h⟩
      | 35 =>
        injection (show some _ = some o from ho) with ho
        subst ho
        have eg : F.eval (.tmp 111) = .bool false := (hat 31 111 (of_decide_eq_true (by kernel_rfl)) rfl).trans (hp ⟨31, .guard⟩ (by simp) rfl).1
        have xg := (hp ⟨31, .guard⟩ (by simp) rfl).2
        refine on_ ((wanted_by rfl rfl eg).trans rfl) ?_
        have e114 : F.eval (.tmp 114) = .pointer (some ⟨rb, 0, none⟩) := (hat 34 114 (of_decide_eq_true (by kernel_rfl)) rfl).trans (hp ⟨34, .data⟩ (by simp) rfl : U 34 = .pointer (some ⟨rb, 0, none⟩))
        have t114 := act_tmp e114
        clear hat hoff hp
        exact wp_value' (.pointer (some ⟨rb, 0, none⟩)) W (by unfold execOp; go_simp) ⟨_, rfl, rfl, hGW, hrefl W, fun _ _ _ h => h⟩
      | 36 =>
        injection (show some _ = some o from ho) with ho
        subst ho
        have eg : F.eval (.tmp 111) = .bool false := (hat 31 111 (of_decide_eq_true (by kernel_rfl)) rfl).trans (hp ⟨31, .guard⟩ (by simp) rfl).1
        have xg := (hp ⟨31, .guard⟩ (by simp) rfl).2
        refine on_ ((wanted_by rfl rfl eg).trans rfl) ?_
        have e115 : F.eval (.tmp 115) = .pointer (some ⟨rb, 0, none⟩) := (hat 35 115 (of_decide_eq_true (by kernel_rfl)) rfl).trans (hp ⟨35, .data⟩ (by simp) rfl : U 35 = .pointer (some ⟨rb, 0, none⟩))
        have t115 := act_tmp e115
        clear hat hoff hp
        exact wp_value' (.pointer (some ⟨rb, 3, none⟩)) W (by unfold execOp; go_simp) ⟨_, rfl, rfl, hGW, hrefl W, fun _ _ _ h => h⟩
      | 37 =>
        injection (show some _ = some o from ho) with ho
        subst ho
        have eg : F.eval (.tmp 111) = .bool false := (hat 31 111 (of_decide_eq_true (by kernel_rfl)) rfl).trans (hp ⟨31, .guard⟩ (by simp) rfl).1
        have xg := (hp ⟨31, .guard⟩ (by simp) rfl).2
        refine on_ ((wanted_by rfl rfl eg).trans rfl) ?_
        have e116 : F.eval (.tmp 116) = .pointer (some ⟨rb, 3, none⟩) := (hat 36 116 (of_decide_eq_true (by kernel_rfl)) rfl).trans (hp ⟨36, .data⟩ (by simp) rfl : U 36 = .pointer (some ⟨rb, 3, none⟩))
        have t116 := act_tmp e116
        clear hat hoff hp
        obtain ⟨oA, on, oc, kl, ki⟩ := xg.2
        have d0 := kl.cell 3
        have d1 := kl.cell 4
        simp at d0 d1
        exact wp_value' (.agg #[.int .i64 l'.mN, .int .i64 l'.mE]) W (by unfold execOp; go_simp) ⟨_, rfl, rfl, hGW, hrefl W, fun _ _ _ h => h⟩
      | 38 =>
        injection (show some _ = some o from ho) with ho
        subst ho
        have eg : F.eval (.tmp 111) = .bool false := (hat 31 111 (of_decide_eq_true (by kernel_rfl)) rfl).trans (hp ⟨31, .guard⟩ (by simp) rfl).1
        have xg := (hp ⟨31, .guard⟩ (by simp) rfl).2
        refine on_ ((wanted_by rfl rfl eg).trans rfl) ?_
        have e113 : F.eval (.tmp 113) = .agg #[.int .i64 l'.mN, .int .i64 l'.mE] := (hat 33 113 (of_decide_eq_true (by kernel_rfl)) rfl).trans (hp ⟨33, .data⟩ (by simp) rfl : U 33 = .agg #[.int .i64 l'.mN, .int .i64 l'.mE])
        have t113 := act_tmp e113
        have e117 : F.eval (.tmp 117) = .agg #[.int .i64 l'.mN, .int .i64 l'.mE] := (hat 37 117 (of_decide_eq_true (by kernel_rfl)) rfl).trans (hp ⟨37, .data⟩ (by simp) rfl : U 37 = .agg #[.int .i64 l'.mN, .int .i64 l'.mE])
        have t117 := act_tmp e117
        clear hat hoff hp
        exact wp_value' (.bool false) W (by unfold execOp; go_simp) ⟨_, rfl, rfl, hGW, hrefl W, fun _ _ _ h => h⟩
      | 39 =>
        injection (show some _ = some o from ho) with ho
        subst ho
        refine on_ (wanted_none rfl) ?_
        have e111 : F.eval (.tmp 111) = .bool false := (hat 31 111 (of_decide_eq_true (by kernel_rfl)) rfl).trans (hp ⟨31, .data⟩ (by simp) rfl).1
        have t111 := act_tmp e111
        have x111 := (hp ⟨31, .data⟩ (by simp) rfl).2
        have e118 : F.eval (.tmp 118) = .bool false := (hat 38 118 (of_decide_eq_true (by kernel_rfl)) rfl).trans (hp ⟨38, .data⟩ (by simp) rfl : U 38 = .bool false)
        have t118 := act_tmp e118
        clear hat hoff hp
        exact wp_value' (.bool false) W (by unfold execOp; go_simp) ⟨_, rfl, ⟨rfl, x111⟩, hGW, hrefl W, fun _ _ _ h => h⟩
      | 40 =>
        injection (show some _ = some o from ho) with ho
        subst ho
        refine on_ (wanted_none rfl) ?_
        have e119 : F.eval (.tmp 119) = .bool false := (hat 39 119 (of_decide_eq_true (by kernel_rfl)) rfl).trans (hp ⟨39, .data⟩ (by simp) rfl).1
        have t119 := act_tmp e119
        have x119 := (hp ⟨39, .data⟩ (by simp) rfl).2
        exact wp_move' (.tmp 119) rfl ⟨_, rfl, ⟨e119, x119⟩, hGW, hrefl W, fun _ _ _ h => h⟩
      | 41 =>
        injection (show some _ = some o from ho) with ho
        subst ho
        have eg : F.eval (.tmp 120) = .bool false := (hat 40 120 (of_decide_eq_true (by kernel_rfl)) rfl).trans (hp ⟨40, .guard⟩ (by simp) rfl).1
        have xg := (hp ⟨40, .guard⟩ (by simp) rfl).2
        refine on_ ((wanted_by rfl rfl eg).trans rfl) ?_
        have e11 : F.eval (.tmp 11) = .pointer (some ⟨lb, 0, none⟩) := (hoff 11 (of_decide_eq_true (by kernel_rfl))).trans rfl
        exact wp_move' (.tmp 11) rfl ⟨_, rfl, e11, hGW, hrefl W, fun _ _ _ h => h⟩
      | 42 =>
        injection (show some _ = some o from ho) with ho
        subst ho
        have eg : F.eval (.tmp 120) = .bool false := (hat 40 120 (of_decide_eq_true (by kernel_rfl)) rfl).trans (hp ⟨40, .guard⟩ (by simp) rfl).1
        have xg := (hp ⟨40, .guard⟩ (by simp) rfl).2
        refine on_ ((wanted_by rfl rfl eg).trans rfl) ?_
        have e121 : F.eval (.tmp 121) = .pointer (some ⟨lb, 0, none⟩) := (hat 41 121 (of_decide_eq_true (by kernel_rfl)) rfl).trans (hp ⟨41, .data⟩ (by simp) rfl : U 41 = .pointer (some ⟨lb, 0, none⟩))
        have t121 := act_tmp e121
        clear hat hoff hp
        refine wp_enter' 32 #[.pointer (some ⟨lb, 0, none⟩)] (by unfold execOp; go_simp) ?_
        refine (wholeL_any lb l' W xg.1 HZ.out).mono ?_
        rintro e W' ⟨A', n', c', rfl, hi, hb⟩
        have hn' := hi.len
        have hne : n' = hn := by rw [← hn', HHN.out]
        subst hne
        exact ⟨_, rfl, _, rfl, ⟨A', c', rfl, hi.mono fun b _ h => hGW.away (show W.heap.size ≤ b from h)⟩, hGW.below hb, ⟨Kept.of _ hb, fun h => h.below hb, fun h => h.below hb⟩, keep_below hb⟩
      | 43 =>
        injection (show some _ = some o from ho) with ho
        subst ho
        have eg : F.eval (.tmp 120) = .bool false := (hat 40 120 (of_decide_eq_true (by kernel_rfl)) rfl).trans (hp ⟨40, .guard⟩ (by simp) rfl).1
        have xg := (hp ⟨40, .guard⟩ (by simp) rfl).2
        refine on_ ((wanted_by rfl rfl eg).trans rfl) ?_
        have e13 : F.eval (.tmp 13) = .pointer (some ⟨rb, 0, none⟩) := (hoff 13 (of_decide_eq_true (by kernel_rfl))).trans rfl
        exact wp_move' (.tmp 13) rfl ⟨_, rfl, e13, hGW, hrefl W, fun _ _ _ h => h⟩
      | 44 =>
        injection (show some _ = some o from ho) with ho
        subst ho
        have eg : F.eval (.tmp 120) = .bool false := (hat 40 120 (of_decide_eq_true (by kernel_rfl)) rfl).trans (hp ⟨40, .guard⟩ (by simp) rfl).1
        have xg := (hp ⟨40, .guard⟩ (by simp) rfl).2
        refine on_ ((wanted_by rfl rfl eg).trans rfl) ?_
        have e123 : F.eval (.tmp 123) = .pointer (some ⟨rb, 0, none⟩) := (hat 43 123 (of_decide_eq_true (by kernel_rfl)) rfl).trans (hp ⟨43, .data⟩ (by simp) rfl : U 43 = .pointer (some ⟨rb, 0, none⟩))
        have t123 := act_tmp e123
        clear hat hoff hp
        exact wp_value' (.pointer (some ⟨rb, 0, none⟩)) W (by unfold execOp; go_simp) ⟨_, rfl, rfl, hGW, hrefl W, fun _ _ _ h => h⟩
      | 45 =>
        injection (show some _ = some o from ho) with ho
        subst ho
        have eg : F.eval (.tmp 120) = .bool false := (hat 40 120 (of_decide_eq_true (by kernel_rfl)) rfl).trans (hp ⟨40, .guard⟩ (by simp) rfl).1
        have xg := (hp ⟨40, .guard⟩ (by simp) rfl).2
        refine on_ ((wanted_by rfl rfl eg).trans rfl) ?_
        have e124 : F.eval (.tmp 124) = .pointer (some ⟨rb, 0, none⟩) := (hat 44 124 (of_decide_eq_true (by kernel_rfl)) rfl).trans (hp ⟨44, .data⟩ (by simp) rfl : U 44 = .pointer (some ⟨rb, 0, none⟩))
        have t124 := act_tmp e124
        clear hat hoff hp
        exact wp_value' (.pointer (some ⟨rb, 5, none⟩)) W (by unfold execOp; go_simp) ⟨_, rfl, rfl, hGW, hrefl W, fun _ _ _ h => h⟩
      | 46 =>
        injection (show some _ = some o from ho) with ho
        subst ho
        have eg : F.eval (.tmp 120) = .bool false := (hat 40 120 (of_decide_eq_true (by kernel_rfl)) rfl).trans (hp ⟨40, .guard⟩ (by simp) rfl).1
        have xg := (hp ⟨40, .guard⟩ (by simp) rfl).2
        refine on_ ((wanted_by rfl rfl eg).trans rfl) ?_
        have e125 : F.eval (.tmp 125) = .pointer (some ⟨rb, 5, none⟩) := (hat 45 125 (of_decide_eq_true (by kernel_rfl)) rfl).trans (hp ⟨45, .data⟩ (by simp) rfl : U 45 = .pointer (some ⟨rb, 5, none⟩))
        have t125 := act_tmp e125
        clear hat hoff hp
        obtain ⟨oA, on, oc, kl, ki⟩ := xg.2
        have d0 := kl.cell 5
        have d1 := kl.cell 6
        have d2 := kl.cell 7
        simp at d0 d1 d2
        have hn' := ki.len
        have hne : on = hn := by rw [← hn', HHN.out]
        subst hne
        exact wp_value' (.agg #[.int .i64 l'.wN, .int .i64 l'.wE, .slice oA on oc]) W (by unfold execOp; go_simp) ⟨_, rfl, ⟨oA, oc, rfl, ki⟩, hGW, hrefl W, fun _ _ _ h => h⟩
      | 47 =>
        injection (show some _ = some o from ho) with ho
        subst ho
        have eg : F.eval (.tmp 120) = .bool false := (hat 40 120 (of_decide_eq_true (by kernel_rfl)) rfl).trans (hp ⟨40, .guard⟩ (by simp) rfl).1
        have xg := (hp ⟨40, .guard⟩ (by simp) rfl).2
        refine on_ ((wanted_by rfl rfl eg).trans rfl) ?_
        have e122 := hat 42 122 (of_decide_eq_true (by kernel_rfl)) rfl
        have v122 := hp ⟨42, .data⟩ (by simp) rfl
        have e126 := hat 46 126 (of_decide_eq_true (by kernel_rfl)) rfl
        have v126 := hp ⟨46, .data⟩ (by simp) rfl
        clear hat hoff hp
        obtain ⟨A1, c1, h122, i1⟩ := v122
        rw [h122] at e122
        have t122 := act_tmp e122
        obtain ⟨A2, c2, h126, i2⟩ := v126
        rw [h126] at e126
        have t126 := act_tmp e126
        refine wp_enter' 35 #[.agg #[.int .i64 l'.wN, .int .i64 l'.wE, .slice A1 hn c1], .agg #[.int .i64 l'.wN, .int .i64 l'.wE, .slice A2 hn c2]] (by unfold execOp; go_simp) ?_
        refine (sameReach_any l'.wN l'.wE W i1 i2 (by have := HZ.out; have := HHN.out; omega)).mono ?_
        rintro e W' ⟨rfl, hb⟩
        exact ⟨_, rfl, _, rfl, rfl, hGW.below hb, ⟨Kept.of _ hb, fun h => h.below hb, fun h => h.below hb⟩, keep_below hb⟩
      | 48 =>
        injection (show some _ = some o from ho) with ho
        subst ho
        have eg : F.eval (.tmp 120) = .bool false := (hat 40 120 (of_decide_eq_true (by kernel_rfl)) rfl).trans (hp ⟨40, .guard⟩ (by simp) rfl).1
        have xg := (hp ⟨40, .guard⟩ (by simp) rfl).2
        refine on_ ((wanted_by rfl rfl eg).trans rfl) ?_
        have e127 : F.eval (.tmp 127) = .bool true := (hat 47 127 (of_decide_eq_true (by kernel_rfl)) rfl).trans (hp ⟨47, .data⟩ (by simp) rfl : U 47 = .bool true)
        have t127 := act_tmp e127
        clear hat hoff hp
        exact wp_value' (.bool false) W (by unfold execOp; go_simp) ⟨_, rfl, rfl, hGW, hrefl W, fun _ _ _ h => h⟩
      | 49 =>
        injection (show some _ = some o from ho) with ho
        subst ho
        refine on_ (wanted_none rfl) ?_
        have e120 : F.eval (.tmp 120) = .bool false := (hat 40 120 (of_decide_eq_true (by kernel_rfl)) rfl).trans (hp ⟨40, .data⟩ (by simp) rfl).1
        have t120 := act_tmp e120
        have x120 := (hp ⟨40, .data⟩ (by simp) rfl).2
        have e128 : F.eval (.tmp 128) = .bool false := (hat 48 128 (of_decide_eq_true (by kernel_rfl)) rfl).trans (hp ⟨48, .data⟩ (by simp) rfl : U 48 = .bool false)
        have t128 := act_tmp e128
        clear hat hoff hp
        exact wp_value' (.bool false) W (by unfold execOp; go_simp) ⟨_, rfl, rfl, hGW, hrefl W, fun _ _ _ h => h⟩
      | i + 50 => exact absurd ho (by simp)
  case hend =>
    intro U W hGW hV
    have h15 := (hV 15 (of_decide_eq_true (by kernel_rfl))).2
    have h19 := (hV 19 (of_decide_eq_true (by kernel_rfl))).2
    have hx : U 49 = .bool false := hV 49 (of_decide_eq_true (by kernel_rfl))
    have hk := hGW
    have e2 := HL2.out
    clear hV hGW
    simp [putU, dstAt, Act.put, hx]
    refine HQ.out _ W ?_ hk (by rw [e2]; exact h19.1) (by rw [e2]; exact h19.2)
    exact ⟨rfl, rfl, rfl, rfl, rfl, rfl, rfl, rfl, rfl, rfl, rfl, rfl, rfl, trivial⟩
end Go.Proofs.Ytaipgdhdfpemcaa

namespace Go.Proofs.Ytaipgdhdfpemcaa
open Go.RowKit

/-- where a round begins -/
structure Tr (W0 W : World) (lb rb : Nat) (A : Option Addr) (n cap : Nat) (os : List OpC) (l : LaneC) : Prop where
  ops : OpsIs W (Two lb rb) A n cap os
  low : Below W0.heap.size W0 W
  geL : W0.heap.size ≤ lb
  geR : W0.heap.size ≤ rb
  ltL : lb < W.heap.size
  ltR : rb < W.heap.size
  ne : lb ≠ rb
  lane : LaneIs W (Two lb rb) lb l
  ref : RefIs W (Two lb rb) rb l
section
variable {W0 W W' : World} {lb rb : Nat} {A : Option Addr} {n cap : Nat} {os : List OpC} {l : LaneC}
theorem Tr.below (h : Tr W0 W lb rb A n cap os l) (hb : Below W.heap.size W W') : Tr W0 W' lb rb A n cap os l :=
  ⟨h.ops.kept (Kept.of _ hb), h.low.trans (hb.mono h.low.size), h.geL, h.geR, Nat.lt_of_lt_of_le h.ltL hb.size, Nat.lt_of_lt_of_le h.ltR hb.size, h.ne, h.lane.below hb, h.ref.below hb⟩
theorem Tr.away (h : Tr W0 W lb rb A n cap os l) {b : Nat} (hb : W.heap.size ≤ b) : Two lb rb b := by
  have h1 := h.ltL
  have h2 := h.ltR
  exact ⟨by omega, by omega⟩
end
/-- how many operations a round gives -/
def headN (n k : Nat) : Nat := n - k % 2 * (n / 3)
theorem headN_le (n k : Nat) : headN n k ≤ n := Nat.sub_le _ _
/-- a return that is wanted -/
@[reducible] noncomputable def takesQ (W : World) : Exit → Act → World → Prop := bodyPost Try.prog takesF fun e w' => e = .returned (.bool true) ∧ Below W.heap.size W w'

set_option maxRecDepth 100000 in
set_option maxHeartbeats 4000000 in
theorem takes11 {W0 w : World} {lb rb : Nat} {A : Option Addr} {n cap : Nat} {os : List OpC} {l : LaneC} {ep : Int} {sA : Option Addr} {sn sc k : Nat} {mb : Nat} {cells : Array Value} {m : MailC} (Q : Exit → Act → World → Prop) (a : Act) (hfr : Fr 142 a [(0, .int .i64 ep), (3, .slice A n cap), (11, .pointer (some ⟨lb, 0, none⟩)), (13, .pointer (some ⟨rb, 0, none⟩)), (15, .int .i64 (k : Nat)), (16, .pointer (some ⟨mb, 0, none⟩)), (60, .slice sA sn sc), (61, .int .i64 (sn : Nat)), (62, .int .i64 (k : Nat))]) (h : Tr W0 w lb rb A n cap os l ∧ Bx0 w (Two lb rb) mb cells m) (hok : m.Ok)
    (hret : ∀ a' w', takesQ W0 .ret a' w' → Q .ret a' w')
    (hQ : m.heavy = false → ∀ a' w', Fr 142 a' [(0, .int .i64 ep), (3, .slice A n cap), (11, .pointer (some ⟨lb, 0, none⟩)), (13, .pointer (some ⟨rb, 0, none⟩)), (15, .int .i64 (k : Nat)), (16, .pointer (some ⟨mb, 0, none⟩)), (60, .slice sA sn sc), (61, .int .i64 (sn : Nat)), (62, .int .i64 (k : Nat))] → Tr W0 w' lb rb A n cap os l ∧ Bx0 w' (Two lb rb) mb cells m → Q .normal a' w') :
    (part [1, 1, 1, 1, 1, 1, 0, 1, 0, 0, 1, 1, 0, 0, 1, 0] (codeOf takesF)).wp Try.prog Q a w := by
  have HT := Lib.hid h
  have HQ := Lib.hid hQ
  have HR := Lib.hid hret
  have HOK := Lib.hid hok
  have hsd := h.2.2.1
  obtain ⟨eA, en, ec, hA, hn', hc', oA', on', oc', pA, pn, pc, ecells, -⟩ := hsd
  have hs17 : cells.size = 17 := by rw [ecells]; rfl
  have HS17 := Lib.hid hs17
  clear h hQ hok hret ecells hs17
  obtain ⟨t, df⟩ := a
  obtain ⟨hd, hs, h0, h3, h11, h13, h15, h16, h60, h61, h62, -⟩ := hfr
  simp only at hd hs h0 h3 h11 h13 h15 h16 h60 h61 h62
  subst hd
  rw [eta142 t hs, h0, h3, h11, h13, h15, h16, h60, h61, h62]
  clear hs h0 h3 h11 h13 h15 h16 h60 h61 h62
  conv => arg 2; whnf
  go_wp2_with (refine wpList_load_mid rfl 30 (.tmp 16) rfl mb 0 rfl _ _ HT.out.2.1.range Try.underlying30 rfl (by rw [Array.length_toList, HS17.out]; exact Try.sizeMail) ?_)
  refine (heavy_any _ m _ HT.out.2.2.1 HOK.out).mono ?_
  rintro e w1 ⟨rfl, hb1⟩
  have HT1 := Lib.hid (And.intro (HT.out.1.below hb1) (HT.out.2.below hb1))
  clear hb1
  cases hv : m.heavy with
  | true =>
    go_wp2_with fail
    refine HR.out _ _ (bodyPost_ret (results_tmp rfl _ _ _) rfl ?_)
    exact ⟨rfl, HT1.out.1.low⟩
  | false =>
    have HV := Lib.hid hv
    go_wp2_with fail
    exact HQ.out HV.out _ _ ⟨rfl, rfl, rfl, rfl, rfl, rfl, rfl, rfl, rfl, rfl, rfl, trivial⟩ HT1.out

set_option maxRecDepth 100000 in
set_option maxHeartbeats 4000000 in
theorem takes10 {W0 w : World} {lb rb : Nat} {A : Option Addr} {n cap : Nat} {os : List OpC} {l : LaneC} {ep : Int} {sA : Option Addr} {sn sc k : Nat} (xs : List MsgX) (Q : Exit → Act → World → Prop) (a : Act) (hfr : Fr 142 a [(0, .int .i64 ep), (3, .slice A n cap), (11, .pointer (some ⟨lb, 0, none⟩)), (13, .pointer (some ⟨rb, 0, none⟩)), (60, .slice sA sn sc), (61, .int .i64 (sn : Nat)), (62, .int .i64 (k : Nat))]) (h : Tr W0 w lb rb A n cap os l) (hm : MsgsIs w (Two lb rb) sA sn xs) (hk : k < sn)
    (hQ : ∀ a' w' mb x, Fr 142 a' [(0, .int .i64 ep), (3, .slice A n cap), (11, .pointer (some ⟨lb, 0, none⟩)), (13, .pointer (some ⟨rb, 0, none⟩)), (15, .int .i64 (k : Nat)), (16, .pointer (some ⟨mb, 0, none⟩)), (60, .slice sA sn sc), (61, .int .i64 (sn : Nat)), (62, .int .i64 (k : Nat))] → Tr W0 w' lb rb A n cap os l ∧ Bx0 w' (Two lb rb) mb x.cells.toArray x.m → x.m.Ok → xs[k]? = some x → MsgsIs w' (Two lb rb) sA sn xs → Q .normal a' w') :
    (part [1, 1, 1, 1, 1, 1, 0, 1, 0, 0, 1, 1, 0, 0, 0] (codeOf takesF)).wp Try.prog Q a w := by
  have HT := Lib.hid h
  have HQ := Lib.hid hQ
  have HM := Lib.hid hm
  obtain ⟨ad, x, rfl, hx, hcell, h17, hmi, hok⟩ := hm.at_ hk
  have HX := Lib.hid hx
  have HC := Lib.hid hcell
  have H17 := Lib.hid h17
  have HMI := Lib.hid hmi
  have HOK := Lib.hid hok
  obtain ⟨eA, en, ec, hA, hn', hc', oA', on', oc', pA, pn, pc, ecells, -⟩ := hmi
  have h1 : x.cells.toArray.all (·.oneCell') = true := by rw [ecells]; exact mailC_one
  have H1 := Lib.hid h1
  have hlt : (k : Int) < (sn : Int) := by omega
  have hb0 : Below w.heap.size w ((w.alloc (.cells noMailC 30)).setCells w.heap.size 0 x.cells) := below_setCells (Nat.le_refl _) ((Below.refl _ _).alloc (Nat.le_refl _) _) _ _
  have hbk : Blk ((w.alloc (.cells noMailC 30)).setCells w.heap.size 0 x.cells) w.heap.size 30 x.cells.toArray := (Blk.new w 30 noMailC).setCells_ x.cells (by rw [h17]; rfl)
  have HB := Lib.hid hb0
  have HK := Lib.hid hbk
  clear h hQ hm hx hcell h17 hok ecells h1 hb0 hbk
  obtain ⟨t, df⟩ := a
  obtain ⟨hd, hs, h0, h3, h11, h13, h60, h61, h62, -⟩ := hfr
  simp only at hd hs h0 h3 h11 h13 h60 h61 h62
  subst hd
  rw [eta142 t hs, h0, h3, h11, h13, h60, h61, h62]
  clear hs h0 h3 h11 h13 h60 h61 h62
  conv => arg 2; whnf
  go_wp2_with (first | refine wpList_load_any rfl 30 (.tmp 65) rfl (ad.add (k * 17)) rfl x.cells _ HC.out Try.underlying30 rfl (by rw [H17.out]; exact Try.sizeMail) ?_ | refine wpList_store_mid rfl 30 (.tmp 16) (.tmp 66) rfl w.heap.size 0 x.cells.toArray rfl rfl ((Blk.new w 30 noMailC).there_ 0 _ (by show 0 + x.cells.toArray.size ≤ 17; rw [List.size_toArray, H17.out]; exact Nat.le_refl _)) (by rw [List.size_toArray, H17.out]; exact Try.sizeMail) H1.out ?_)
  exact HQ.out _ _ w.heap.size x ⟨rfl, rfl, rfl, rfl, rfl, rfl, rfl, rfl, rfl, rfl, rfl, trivial⟩ ⟨HT.out.below HB.out, HK.out, HMI.out.below HB.out, HT.out.away (Nat.le_refl _)⟩ HOK.out HX.out (HM.out.below HB.out)

set_option maxRecDepth 100000 in
set_option maxHeartbeats 4000000 in
theorem takes13 {w : World} {lb rb : Nat} {A : Option Addr} {n cap : Nat} {ep : Int} {sA : Option Addr} {sn sc k : Nat} {mb : Nat} (Q : Exit → Act → World → Prop) (a : Act) (hfr : Fr 142 a [(0, .int .i64 ep), (3, .slice A n cap), (11, .pointer (some ⟨lb, 0, none⟩)), (13, .pointer (some ⟨rb, 0, none⟩)), (15, .int .i64 (k : Nat)), (16, .pointer (some ⟨mb, 0, none⟩)), (60, .slice sA sn sc), (61, .int .i64 (sn : Nat)), (62, .int .i64 (k : Nat))]) (hn : n ≤ 4294967296) (hcap : n ≤ cap) (hmax : cap ≤ maxLen)
    (hQ : ∀ a', Fr 142 a' [(0, .int .i64 ep), (3, .slice A n cap), (11, .pointer (some ⟨lb, 0, none⟩)), (13, .pointer (some ⟨rb, 0, none⟩)), (15, .int .i64 (k : Nat)), (16, .pointer (some ⟨mb, 0, none⟩)), (17, .slice A (headN n k) cap), (60, .slice sA sn sc), (61, .int .i64 (sn : Nat)), (62, .int .i64 (k : Nat))] → Q .normal a' w) :
    (part [1, 1, 1, 1, 1, 1, 0, 1, 0, 0, 1, 1, 0, 0, 1, 1, 0] (codeOf takesF)).wp Try.prog Q a w := by
  have HQ := Lib.hid hQ
  obtain ⟨b, hb⟩ : ∃ b, b = k % 2 := ⟨_, rfl⟩
  obtain ⟨q, hq⟩ : ∃ q, q = n / 3 := ⟨_, rfl⟩
  have e1 : (k : Int) % 2 = (b : Int) := by omega
  have e2 : (n : Int) / 3 = (q : Int) := by omega
  have b1 : b = 0 ∨ b = 1 := by omega
  have q1 : q ≤ n := by omega
  obtain ⟨r, hr⟩ : ∃ r, r = headN n k := ⟨_, rfl⟩
  have hrn : r ≤ n := hr ▸ headN_le n k
  have hbq : b * q ≤ n := by rcases b1 with h | h <;> rw [h] <;> omega
  have e3 : ((b : Int) * (q : Int)) = ((b * q : Nat) : Int) := by simp
  have e4 : (n : Int) - ((b * q : Nat) : Int) = (r : Int) := by rw [hr]; unfold headN; rw [← hb, ← hq]; omega
  have sl := slice_lo A n cap r hrn hcap hmax
  have w1 : ∀ x : Nat, x ≤ 4294967296 → wrap64 (x : Int) = (x : Int) := fun x hx => by unfold wrap64; omega
  have hu : wrap64 ((n : Int) - wrap64 ((k : Int) % 2 * ((n : Int) / 3))) = (r : Int) := by
    rw [e1, e2, e3, w1 _ (by omega), e4, w1 _ (by omega)]
  have hv : (wrap64 ((n : Int) - wrap64 ((k : Int) % 2 * ((n : Int) / 3)))).toNat = r := by
    rw [hu]
    rfl
  have HU := Lib.hid hu
  have HV := Lib.hid hv
  clear e1 e2 w1 hv hu
  have e1 : Int.tmod (k : Int) 2 = (b : Int) := by rw [hb]; rfl
  have e2 : Int.tdiv (n : Int) 3 = (q : Int) := by rw [hq]; rfl
  rw [← hr] at HQ
  clear hr hQ
  obtain ⟨t, df⟩ := a
  obtain ⟨hd, hs, h0, h3, h11, h13, h15, h16, h60, h61, h62, -⟩ := hfr
  simp only at hd hs h0 h3 h11 h13 h15 h16 h60 h61 h62
  subst hd
  rw [eta142 t hs, h0, h3, h11, h13, h15, h16, h60, h61, h62]
  clear hs h0 h3 h11 h13 h15 h16 h60 h61 h62
  conv => arg 2; whnf
  go_wp2_with fail
  · refine HQ.out _ ?_
    exact ⟨rfl, rfl, rfl, rfl, rfl, rfl, rfl, rfl, congrArg (fun z => Value.slice A z cap) HV.out, rfl, rfl, rfl, trivial⟩
  · rename_i hx
    exact absurd (by rw [HU.out]; exact ⟨by omega, by omega⟩) hx
end Go.Proofs.Ytaipgdhdfpemcaa

namespace Go.Proofs.Ytaipgdhdfpemcaa
open Go.RowKit

theorem LaneIs.mono {w : World} {S S' : Nat → Prop} {b : Nat} {l : LaneC} (h : LaneIs w S b l) (hi : ∀ b, b < w.heap.size → S b → S' b) : LaneIs w S' b l := by
  obtain ⟨oA, on, oc, h1, h2⟩ := h
  exact ⟨oA, on, oc, h1, h2.mono hi⟩
theorem RefIs.mono {w : World} {S S' : Nat → Prop} {b : Nat} {l : LaneC} (h : RefIs w S b l) (hi : ∀ b, b < w.heap.size → S b → S' b) : RefIs w S' b l := by
  obtain ⟨oA, on, oc, h1, h2⟩ := h
  exact ⟨oA, on, oc, h1, h2.mono hi⟩
/-- the copy's block is not among what its holes lie in -/
theorem two_copy {lb rb n : Nat} {b : Nat} (h : Two lb rb b ∧ b < n) : Two n rb b := ⟨by have := h.2; omega, h.1.2⟩
set_option maxRecDepth 100000 in
set_option maxHeartbeats 4000000 in
theorem takes17 {w : World} {lb rb : Nat} {S : Nat → Prop} {A : Option Addr} {n n1 cap : Nat} {l : LaneC} {ep : Int} {sA : Option Addr} {sn sc k : Nat} (Q : Exit → Act → World → Prop) (a : Act) (hfr : Fr 142 a [(0, .int .i64 ep), (3, .slice A n cap), (11, .pointer (some ⟨lb, 0, none⟩)), (13, .pointer (some ⟨rb, 0, none⟩)), (17, .slice A n1 cap), (60, .slice sA sn sc), (61, .int .i64 (sn : Nat)), (62, .int .i64 (k : Nat))]) (h : LaneIs w S lb l)
    (hQ : ∀ a' w', Fr 142 a' [(0, .int .i64 ep), (3, .slice A n cap), (11, .pointer (some ⟨lb, 0, none⟩)), (13, .pointer (some ⟨rb, 0, none⟩)), (17, .slice A n1 cap), (18, .pointer (some ⟨w.heap.size, 0, none⟩)), (60, .slice sA sn sc), (61, .int .i64 (sn : Nat)), (62, .int .i64 (k : Nat))] → LaneIs w' S w.heap.size l → Below w.heap.size w w' → Q .normal a' w') :
    (part [1, 1, 1, 1, 1, 1, 0, 1, 0, 0, 1, 1, 0, 0, 1, 1, 1, 1, 1, 0, 0] (codeOf takesF)).wp Try.prog Q a w := by
  have HT := Lib.hid h
  have HQ := Lib.hid hQ
  clear h hQ
  obtain ⟨t, df⟩ := a
  obtain ⟨hd, hs, h0, h3, h11, h13, h17, h60, h61, h62, -⟩ := hfr
  simp only at hd hs h0 h3 h11 h13 h17 h60 h61 h62
  subst hd
  rw [eta142 t hs, h0, h3, h11, h13, h17, h60, h61, h62]
  clear hs h0 h3 h11 h13 h17 h60 h61 h62
  conv => arg 2; whnf
  go_wp2_with fail
  refine (copyL_any lb l w HT.out).mono ?_
  rintro e w1 ⟨rfl, hl, hb⟩
  have H1 := Lib.hid hl
  have H2 := Lib.hid hb
  clear hl hb
  go_wp2_with fail
  exact HQ.out _ _ ⟨rfl, rfl, rfl, rfl, rfl, rfl, rfl, rfl, rfl, rfl, rfl, trivial⟩ H1.out H2.out
set_option maxRecDepth 100000 in
set_option maxHeartbeats 4000000 in
theorem takes19 {w : World} {lb nb rb : Nat} {A : Option Addr} {n n1 cap : Nat} {ep : Int} {sA : Option Addr} {sn sc k : Nat} (Q : Exit → Act → World → Prop) (a : Act) (hfr : Fr 142 a [(0, .int .i64 ep), (3, .slice A n cap), (11, .pointer (some ⟨lb, 0, none⟩)), (13, .pointer (some ⟨rb, 0, none⟩)), (17, .slice A n1 cap), (18, .pointer (some ⟨nb, 0, none⟩)), (60, .slice sA sn sc), (61, .int .i64 (sn : Nat)), (62, .int .i64 (k : Nat))])
    (hQ : ∀ a', Fr 142 a' [(0, .int .i64 ep), (3, .slice A n cap), (11, .pointer (some ⟨nb, 0, none⟩)), (13, .pointer (some ⟨rb, 0, none⟩)), (60, .slice sA sn sc), (61, .int .i64 (sn : Nat)), (62, .int .i64 (k : Nat))] → Q .normal a' w) :
    (part [1, 1, 1, 1, 1, 1, 0, 1, 0, 0, 1, 1, 0, 0, 1, 1, 1, 1, 1, 0, 1, 1] (codeOf takesF)).wp Try.prog Q a w := by
  have HQ := Lib.hid hQ
  clear hQ
  obtain ⟨t, df⟩ := a
  obtain ⟨hd, hs, h0, h3, h11, h13, h17, h18, h60, h61, h62, -⟩ := hfr
  simp only at hd hs h0 h3 h11 h13 h17 h18 h60 h61 h62
  subst hd
  rw [eta142 t hs, h0, h3, h11, h13, h17, h18, h60, h61, h62]
  clear hs h0 h3 h11 h13 h17 h18 h60 h61 h62
  conv => arg 2; whnf
  go_wp2_with fail
  exact HQ.out _ ⟨rfl, rfl, rfl, rfl, rfl, rfl, rfl, rfl, rfl, trivial⟩
set_option maxRecDepth 100000 in
set_option maxHeartbeats 4000000 in
theorem takes16 {w : World} {lb rb : Nat} {A : Option Addr} {n n1 cap : Nat} {ep : Int} {sA : Option Addr} {sn sc k : Nat} (Q : Exit → Act → World → Prop) (a : Act) (hfr : Fr 142 a [(0, .int .i64 ep), (3, .slice A n cap), (11, .pointer (some ⟨lb, 0, none⟩)), (13, .pointer (some ⟨rb, 0, none⟩)), (15, .int .i64 (k : Nat)), (17, .slice A n1 cap), (60, .slice sA sn sc), (61, .int .i64 (sn : Nat)), (62, .int .i64 (k : Nat))]) (hk : k ≤ 100)
    (hQ : ∀ a', Fr 142 a' [(0, .int .i64 ep), (3, .slice A n cap), (11, .pointer (some ⟨lb, 0, none⟩)), (13, .pointer (some ⟨rb, 0, none⟩)), (15, .int .i64 (k : Nat)), (17, .slice A n1 cap), (60, .slice sA sn sc), (61, .int .i64 (sn : Nat)), (62, .int .i64 (k : Nat)), (132, .bool (decide (k % 4 = 3)))] → Q .normal a' w) :
    (part [1, 1, 1, 1, 1, 1, 0, 1, 0, 0, 1, 1, 0, 0, 1, 1, 1, 1, 0] (codeOf takesF)).wp Try.prog Q a w := by
  have hv : (decide ((k : Int) % 4 = 3)) = decide (k % 4 = 3) := by
    by_cases h : k % 4 = 3
    · rw [decide_eq_true h, decide_eq_true (by omega)]
    · rw [decide_eq_false h, decide_eq_false (by omega)]
  have HV := Lib.hid hv
  have HQ := Lib.hid hQ
  clear hQ hv
  obtain ⟨t, df⟩ := a
  obtain ⟨hd, hs, h0, h3, h11, h13, h15, h17, h60, h61, h62, -⟩ := hfr
  simp only at hd hs h0 h3 h11 h13 h15 h17 h60 h61 h62
  subst hd
  rw [eta142 t hs, h0, h3, h11, h13, h15, h17, h60, h61, h62]
  clear hs h0 h3 h11 h13 h15 h17 h60 h61 h62
  conv => arg 2; whnf
  go_wp2_with fail
  refine HQ.out _ ?_
  exact ⟨rfl, rfl, rfl, rfl, rfl, rfl, rfl, rfl, rfl, rfl, rfl, congrArg Value.bool HV.out, trivial⟩
end Go.Proofs.Ytaipgdhdfpemcaa

namespace Go.Proofs.Ytaipgdhdfpemcaa
open Go.RowKit

/-- an answer of an epoch -/
def answC (ep : Int) : MailC := ⟨10, 0, 0, 0, 0, false, [], ⟨#[]⟩, [], ep, 0, 0, 0, 0, 0, [], []⟩
theorem answ_is (w : World) (S : Nat → Prop) (ep : Int) : MailIs w S (mailC 10 0 0 0 0 false none 0 0 ⟨#[]⟩ none 0 0 ep 0 0 0 0 0 none 0 0 none 0 0) (answC ep) :=
  ⟨none, 0, 0, none, 0, 0, none, 0, 0, none, 0, 0, rfl, ⟨Rs.nil_ _ _ _ _, Nat.le_refl _, Nat.zero_le _⟩, ⟨Rs.nil_ _ _ _ _, Nat.le_refl _, Nat.zero_le _⟩, ⟨Rs.nil_ _ _ _ _, Nat.le_refl _, Nat.zero_le _⟩, ⟨[], ⟨rfl, fun h => absurd h (by decide)⟩, by constructor, Nat.le_refl _, Nat.zero_le _⟩⟩

set_option maxRecDepth 100000 in
set_option maxHeartbeats 4000000 in
theorem takes18 {w : World} {lb nb rb : Nat} {S : Nat → Prop} {A : Option Addr} {n n1 cap : Nat} {os1 : List OpC} {l : LaneC} {ep : Int} {sA : Option Addr} {sn sc k : Nat} (Q : Exit → Act → World → Prop) (a : Act) (hfr : Fr 142 a [(0, .int .i64 ep), (3, .slice A n cap), (11, .pointer (some ⟨lb, 0, none⟩)), (13, .pointer (some ⟨rb, 0, none⟩)), (17, .slice A n1 cap), (18, .pointer (some ⟨nb, 0, none⟩)), (60, .slice sA sn sc), (61, .int .i64 (sn : Nat)), (62, .int .i64 (k : Nat))]) (hL : ¬ S lb) (hU : ∀ b, w.heap.size ≤ b → S b) (h : LaneIs w S lb l) (hok : (answC ep).Ok) (ho : OpsIs w S A n1 cap os1) (hn : n1 ≤ 4294967296)
    (hQ : ∀ a' w', Fr 142 a' [(0, .int .i64 ep), (3, .slice A n cap), (11, .pointer (some ⟨lb, 0, none⟩)), (13, .pointer (some ⟨rb, 0, none⟩)), (17, .slice A n1 cap), (18, .pointer (some ⟨nb, 0, none⟩)), (60, .slice sA sn sc), (61, .int .i64 (sn : Nat)), (62, .int .i64 (k : Nat))] → Turn lb w w' → Q .normal a' w') :
    (part [1, 1, 1, 1, 1, 1, 0, 1, 0, 0, 1, 1, 0, 0, 1, 1, 1, 1, 1, 0, 1, 0] (codeOf takesF)).wp Try.prog Q a w := by
  have HQ := Lib.hid hQ
  have HC := Lib.hid (takeL_any lb l _ _ os1 w hL hU h (answ_is w S ep) hok ho hn)
  clear hQ hL hU h hok ho hn
  obtain ⟨t, df⟩ := a
  obtain ⟨hd, hs, h0, h3, h11, h13, h17, h18, h60, h61, h62, -⟩ := hfr
  simp only at hd hs h0 h3 h11 h13 h17 h18 h60 h61 h62
  subst hd
  rw [eta142 t hs, h0, h3, h11, h13, h17, h18, h60, h61, h62]
  clear hs h0 h3 h11 h13 h17 h18 h60 h61 h62
  conv => arg 2; whnf
  go_wp2_with fail
  refine HC.out.mono ?_
  rintro e w1 ⟨rfl, -, ht⟩
  have H1 := Lib.hid ht
  clear ht
  go_wp2_with fail
  exact HQ.out _ _ ⟨rfl, rfl, rfl, rfl, rfl, rfl, rfl, rfl, rfl, rfl, rfl, trivial⟩ H1.out
end Go.Proofs.Ytaipgdhdfpemcaa

namespace Go.Proofs.Ytaipgdhdfpemcaa
open Go.RowKit

structure LInv (ep : Int) (os : List OpC) (l : LaneC) (told wholes : List (Int × Int)) : Prop where
  ok : l.Ok
  epoch : l.epoch = ep
  mt : (l.mN, l.mE) ∈ told
  wt : (l.wN, l.wE) ∈ wholes
  mle : l.mN ≤ os.length
  mnx : l.mN ≤ l.next
  hol : ∀ z ∈ l.holes, z ≤ l.wN

theorem riseB_le (up : Int) : ∀ (l : List Int) (x : Int), riseB up x l = true → ∀ z ∈ l, z ≤ up
  | [], _, _, z, hz => by cases hz
  | a :: l, x, h, z, hz => by
    simp only [riseB, Bool.and_eq_true, decide_eq_true_eq] at h
    rcases List.mem_cons.1 hz with rfl | hz
    · omega
    · exact riseB_le up l _ h.2 z hz
theorem right10_holes {m : MailC} (h : m.right10 = true) : ∀ z ∈ m.holes, z ≤ m.whN := by
  unfold MailC.right10 at h
  simp only [Bool.and_eq_true] at h
  exact riseB_le _ _ _ h.2.2.2.2.2
theorem has_le {os : List OpC} {N E : Int} (h : hasB os N E = true) (h0 : 0 < N) : N ≤ os.length := by
  unfold hasB at h
  simp only [Bool.or_eq_true, Bool.and_eq_true, decide_eq_true_eq] at h
  rcases h with h | h
  · omega
  · exact h.2.1
theorem i64_max {a b : Int} (ha : I64 a) (hb : I64 b) : I64 (max a b) := by
  unfold I64 at *
  omega
theorem i64_min {a b : Int} (ha : I64 a) (hb : I64 b) : I64 (min a b) := by
  unfold I64 at *
  omega
/-- what is told of then -/
def told' (ep : Int) (m : MailC) (told : List (Int × Int)) : List (Int × Int) := if (m.good && (m.epoch == ep)) = true then (m.atN, m.atE) :: told else told
def wholes' (ep : Int) (m : MailC) (wholes : List (Int × Int)) : List (Int × Int) := if (m.good && (m.epoch == ep)) = true then (m.whN, m.whE) :: wholes else wholes
theorem told'_mem {ep : Int} {m : MailC} {told : List (Int × Int)} {p : Int × Int} (h : p ∈ told) : p ∈ told' ep m told := by
  unfold told'
  split
  · exact List.mem_cons_of_mem _ h
  · exact h
theorem wholes'_mem {ep : Int} {m : MailC} {wholes : List (Int × Int)} {p : Int × Int} (h : p ∈ wholes) : p ∈ wholes' ep m wholes := by
  unfold wholes'
  split
  · exact List.mem_cons_of_mem _ h
  · exact h
theorem goodS_inv {ep : Int} {os : List OpC} {l : LaneC} {told wholes : List (Int × Int)} {m : MailC} (h : LInv ep os l told wholes) (hok : m.Ok) (hr : m.right10 = true) (he : m.epoch = ep) (hg : m.good = true) :
    LInv ep os (goodS l m os) (told' ep m told) (wholes' ep m wholes) ∧ l.mN ≤ (goodS l m os).mN ∧ l.wN ≤ (goodS l m os).wN := by
  have ht : told' ep m told = (m.atN, m.atE) :: told := by unfold told'; simp [he, hg]
  have hw : wholes' ep m wholes = (m.whN, m.whE) :: wholes := by unfold wholes'; simp [he, hg]
  rw [ht, hw]
  have h1 : LInv ep os (goodS1 l m os) ((m.atN, m.atE) :: told) ((m.whN, m.whE) :: wholes) ∧ l.mN ≤ (goodS1 l m os).mN ∧ (goodS1 l m os).wN = l.wN := by
    unfold goodS1
    split
    · rename_i hc
      simp only [Bool.and_eq_true, decide_eq_true_eq] at hc
      have hle := has_le hc.2 hc.1
      have hmnx := h.mnx
      have hmle := h.mle
      unfold LaneC.further
      split
      · refine ⟨⟨⟨hok.atN, hok.atE, h.ok.wN, h.ok.wE, h.ok.holes, h.ok.each, h.ok.epoch, h.ok.site, i64_max h.ok.next hok.atN⟩, h.epoch, List.mem_cons_self .., List.mem_cons_of_mem _ h.wt, hle, ?_, h.hol⟩, ?_, rfl⟩
        · show m.atN ≤ max l.next m.atN; omega
        · show l.mN ≤ m.atN; omega
      · refine ⟨⟨⟨h.ok.mN, h.ok.mE, h.ok.wN, h.ok.wE, h.ok.holes, h.ok.each, h.ok.epoch, h.ok.site, i64_max h.ok.next hok.atN⟩, h.epoch, List.mem_cons_of_mem _ h.mt, List.mem_cons_of_mem _ h.wt, hmle, ?_, h.hol⟩, Int.le_refl _, rfl⟩
        show l.mN ≤ max l.next m.atN; omega
    · exact ⟨⟨h.ok, h.epoch, List.mem_cons_of_mem _ h.mt, List.mem_cons_of_mem _ h.wt, h.mle, h.mnx, h.hol⟩, Int.le_refl _, rfl⟩
  obtain ⟨h2, h3, h4⟩ := h1
  unfold goodS goodS2
  split
  · rename_i hc
    simp only [Bool.and_eq_true, decide_eq_true_eq] at hc
    refine ⟨⟨⟨h2.ok.mN, h2.ok.mE, hok.whN, hok.whE, hok.holes, hok.hole, h2.ok.epoch, h2.ok.site, h2.ok.next⟩, h2.epoch, h2.mt, List.mem_cons_self .., h2.mle, h2.mnx, right10_holes hr⟩, h3, ?_⟩
    show l.wN ≤ m.whN
    omega
  · exact ⟨h2, h3, by omega⟩
/-- the law -/
theorem take_inv {ep : Int} {os : List OpC} {l : LaneC} {told wholes : List (Int × Int)} {m : MailC} (h : LInv ep os l told wholes) (hok : m.Ok) (hos : os.length ≤ 4294967296) :
    LInv ep os (takeS l m os) (told' ep m told) (wholes' ep m wholes) ∧ l.mN ≤ (takeS l m os).mN ∧ l.wN ≤ (takeS l m os).wN ∧ (m.epoch ≠ ep → takeS l m os = l) := by
  have same : LInv ep os l (told' ep m told) (wholes' ep m wholes) := ⟨h.ok, h.epoch, told'_mem h.mt, wholes'_mem h.wt, h.mle, h.mnx, h.hol⟩
  unfold takeS
  split
  · rename_i hc
    unfold rightS
    split
    · rename_i he
      have he' : m.epoch = ep := by rw [he, h.epoch]
      cases hg : m.good with
      | true =>
        simp only [if_true]
        obtain ⟨h1, h2, h3⟩ := goodS_inv h hok hc.2 he' hg
        exact ⟨h1, h2, h3, fun hne => absurd he' hne⟩
      | false =>
        simp only [Bool.false_eq_true, if_false]
        have hu := Seam.upTo_le (os.map (·.epoch)) m.atN m.atE
        have hl := hu.2
        rw [List.length_map] at hl
        have hmnx := h.mnx
        refine ⟨⟨⟨h.ok.mN, h.ok.mE, h.ok.wN, h.ok.wE, h.ok.holes, h.ok.each, h.ok.epoch, h.ok.site, i64_min h.ok.next (i64_max h.ok.mN ⟨by omega, by omega⟩)⟩, h.epoch, told'_mem h.mt, wholes'_mem h.wt, h.mle, ?_, h.hol⟩, Int.le_refl _, Int.le_refl _, fun hne => absurd he' hne⟩
        show l.mN ≤ min l.next (max l.mN _)
        omega
    · exact ⟨same, Int.le_refl _, Int.le_refl _, fun _ => rfl⟩
  · exact ⟨same, Int.le_refl _, Int.le_refl _, fun _ => rfl⟩
end Go.Proofs.Ytaipgdhdfpemcaa

namespace Go.Proofs.Ytaipgdhdfpemcaa
open Go.RowKit

/-- what a lane of LaneTakes is -/
structure TInv (ep st : Int) (l : LaneC) : Prop where
  ok : l.Ok
  epoch : l.epoch = ep
  site : l.site = st
  next : 0 ≤ l.next
theorem goodS_tinv {ep st : Int} {os : List OpC} {l : LaneC} {m : MailC} (h : TInv ep st l) (hok : m.Ok) : TInv ep st (goodS l m os) := by
  have h1 : TInv ep st (goodS1 l m os) := by
    have h0 := h.next
    unfold goodS1
    split
    · unfold LaneC.further
      split
      · exact ⟨⟨hok.atN, hok.atE, h.ok.wN, h.ok.wE, h.ok.holes, h.ok.each, h.ok.epoch, h.ok.site, i64_max h.ok.next hok.atN⟩, h.epoch, h.site, (by show 0 ≤ max l.next m.atN; omega)⟩
      · exact ⟨⟨h.ok.mN, h.ok.mE, h.ok.wN, h.ok.wE, h.ok.holes, h.ok.each, h.ok.epoch, h.ok.site, i64_max h.ok.next hok.atN⟩, h.epoch, h.site, (by show 0 ≤ max l.next m.atN; omega)⟩
    · exact h
  unfold goodS goodS2
  split
  · exact ⟨⟨h1.ok.mN, h1.ok.mE, hok.whN, hok.whE, hok.holes, hok.hole, h1.ok.epoch, h1.ok.site, h1.ok.next⟩, h1.epoch, h1.site, h1.next⟩
  · exact h1
/-- the law -/
theorem take_tinv {ep st : Int} {os : List OpC} {l : LaneC} {m : MailC} (h : TInv ep st l) (hok : m.Ok) (hos : os.length ≤ 4294967296) : TInv ep st (takeS l m os) := by
  unfold takeS
  split
  · unfold rightS
    split
    · split
      · exact goodS_tinv h hok
      · have hl := (Seam.upTo_le (os.map (·.epoch)) m.atN m.atE).2
        rw [List.length_map] at hl
        have h0 := h.next
        refine ⟨⟨h.ok.mN, h.ok.mE, h.ok.wN, h.ok.wE, h.ok.holes, h.ok.each, h.ok.epoch, h.ok.site, i64_min h.ok.next (i64_max h.ok.mN ⟨by omega, by omega⟩)⟩, h.epoch, h.site, ?_⟩
        show 0 ≤ min l.next (max l.mN _)
        omega
    · exact h
  · exact h
end Go.Proofs.Ytaipgdhdfpemcaa

namespace Go.Proofs.Ytaipgdhdfpemcaa
open Go.RowKit

theorem lastC_ok {cs : List OpC} (h : ∀ c ∈ cs, c.Ok) : I64 (lastC cs).1 ∧ I64 (lastC cs).2 := by
  unfold lastC
  cases hg : cs.getLast? with
  | none => exact (show I64 0 ∧ I64 0 from ⟨⟨by omega, by omega⟩, ⟨by omega, by omega⟩⟩)
  | some o =>
    have hm : o ∈ cs := List.mem_of_getLast? hg
    exact ⟨(h o hm).n, (h o hm).epoch⟩
theorem offM_ok {ep st : Int} {l : LaneC} {os : List OpC} (h : TInv ep st l) (hos : ∀ c ∈ os, c.Ok) : (offM l os).Ok := by
  have z : I64 0 := ⟨by omega, by omega⟩
  have hl := lastC_ok (cs := os.take (min l.next os.length).toNat) fun c hc => hos c (List.mem_of_mem_take hc)
  refine ⟨⟨by show (_ : Int) ≤ 9; omega, by show (9 : Int) ≤ _; omega⟩, z, z, z, z, Nat.zero_le _, Nat.zero_le _, Nat.zero_le _, h.ok.epoch, h.ok.site, hl.1, hl.2, z, z, Nat.zero_le _, fun _ hz => (by cases hz), ?_, fun c hc => hos c (List.mem_of_mem_drop (List.mem_of_mem_take hc))⟩
  show ((os.drop (min l.next os.length).toNat).take (min os.length ((min l.next os.length).toNat + 8) - (min l.next os.length).toNat)).length * 96 ≤ 140737488351232
  rw [List.length_take, List.length_drop]
  omega
theorem answC_ok {ep : Int} (h : I64 ep) : (answC ep).Ok := by
  have z : I64 0 := ⟨by omega, by omega⟩
  exact ⟨⟨by show (_ : Int) ≤ 10; omega, by show (10 : Int) ≤ _; omega⟩, z, z, z, z, Nat.zero_le _, Nat.zero_le _, Nat.zero_le _, h, z, z, z, z, z, Nat.zero_le _, fun _ hz => (by cases hz), Nat.zero_le _, fun _ hz => (by cases hz)⟩
end Go.Proofs.Ytaipgdhdfpemcaa

namespace Go.Proofs.Ytaipgdhdfpemcaa
open Go.RowKit

set_option maxRecDepth 100000 in
set_option maxHeartbeats 4000000 in
theorem takes_round {W0 w : World} {lb rb : Nat} {A : Option Addr} {n cap : Nat} {os : List OpC} {l : LaneC} {ep st : Int} {sA : Option Addr} {sn sc k : Nat} (xs : List MsgX) (Q : Exit → Act → World → Prop) (a : Act) (hfr : Fr 142 a [(0, .int .i64 ep), (3, .slice A n cap), (11, .pointer (some ⟨lb, 0, none⟩)), (13, .pointer (some ⟨rb, 0, none⟩)), (60, .slice sA sn sc), (61, .int .i64 (sn : Nat)), (62, .int .i64 (k : Nat))]) (h : Tr W0 w lb rb A n cap os l) (hinv : TInv ep st l) (hm : MsgsIs W0 Any sA sn xs) (hk : k < sn) (hsn : sn ≤ 100) (hn : n ≤ 4294967296) (hos : ∀ c ∈ os, c.Ok) (hep : I64 ep)
    (hret : ∀ a' w', takesQ W0 .ret a' w' → Q .ret a' w')
    (hQ : ∀ a' w' lb' l', Fr 142 a' [(0, .int .i64 ep), (3, .slice A n cap), (11, .pointer (some ⟨lb', 0, none⟩)), (13, .pointer (some ⟨rb, 0, none⟩)), (60, .slice sA sn sc), (61, .int .i64 (sn : Nat)), (62, .int .i64 (k : Nat))] → Tr W0 w' lb' rb A n cap os l' → TInv ep st l' → Q .normal a' w') :
    (part [1, 1, 1, 1, 1, 1, 0, 1, 0, 0, 1, 1, 0, 0] (codeOf takesF)).wp Try.prog Q a w := by
  have hcap : n ≤ cap := h.ops.choose_spec.2.2.1
  have hmax : cap ≤ maxLen := h.ops.choose_spec.2.2.2
  have hlen := h.ops.len
  have hms : MsgsIs w (Two lb rb) sA sn xs := by
    have g1 := h.geL
    have g2 := h.geR
    exact (hm.mono (S' := Two lb rb) fun b hb _ => ⟨by omega, by omega⟩).below h.low
  refine wp_two (x := part [1, 1, 1, 1, 1, 1, 0, 1, 0, 0, 1, 1, 0, 0, 0] (codeOf takesF)) (y := part [1, 1, 1, 1, 1, 1, 0, 1, 0, 0, 1, 1, 0, 0, 1] (codeOf takesF)) (by kernel_rfl) ?_
  refine takes10 xs _ a hfr h hms hk fun a1 w1 mb x hf1 h1 hxok hxk hm1 => ?_
  show (part [1, 1, 1, 1, 1, 1, 0, 1, 0, 0, 1, 1, 0, 0, 1] (codeOf takesF)).wp Try.prog (Q) a1 w1
  refine wp_two (x := part [1, 1, 1, 1, 1, 1, 0, 1, 0, 0, 1, 1, 0, 0, 1, 0] (codeOf takesF)) (y := part [1, 1, 1, 1, 1, 1, 0, 1, 0, 0, 1, 1, 0, 0, 1, 1] (codeOf takesF)) (by kernel_rfl) ?_
  refine takes11 _ a1 hf1 h1 hxok (fun a' w' hq => hret a' w' hq) fun hv a2 w2 hf2 h2 => ?_
  have hsm : x.m.ops.length ≤ 4294967296 := by
    unfold MailC.heavy at hv
    simp only [Bool.or_eq_false_iff, decide_eq_false_iff_not] at hv
    omega
  show (part [1, 1, 1, 1, 1, 1, 0, 1, 0, 0, 1, 1, 0, 0, 1, 1] (codeOf takesF)).wp Try.prog (Q) a2 w2
  refine wp_two (x := part [1, 1, 1, 1, 1, 1, 0, 1, 0, 0, 1, 1, 0, 0, 1, 1, 0] (codeOf takesF)) (y := part [1, 1, 1, 1, 1, 1, 0, 1, 0, 0, 1, 1, 0, 0, 1, 1, 1] (codeOf takesF)) (by kernel_rfl) ?_
  refine takes13 _ a2 hf2 hn hcap hmax fun a3 hf3 => ?_
  show (part [1, 1, 1, 1, 1, 1, 0, 1, 0, 0, 1, 1, 0, 0, 1, 1, 1] (codeOf takesF)).wp Try.prog (Q) a3 w2
  refine wp_two (x := part [1, 1, 1, 1, 1, 1, 0, 1, 0, 0, 1, 1, 0, 0, 1, 1, 1, 0] (codeOf takesF)) (y := part [1, 1, 1, 1, 1, 1, 0, 1, 0, 0, 1, 1, 0, 0, 1, 1, 1, 1] (codeOf takesF)) (by kernel_rfl) ?_
  refine wp_two (x := part [1, 1, 1, 1, 1, 1, 0, 1, 0, 0, 1, 1, 0, 0, 1, 1, 1, 0, 0] (codeOf takesF)) (y := part [1, 1, 1, 1, 1, 1, 0, 1, 0, 0, 1, 1, 0, 0, 1, 1, 1, 0, 1] (codeOf takesF)) (by kernel_rfl) ?_
  have hle := headN_le n k
  obtain ⟨hT, hB⟩ := h2
  have hcells : x.cells.toArray.size = 17 := by
    obtain ⟨eA, en, ec, hA, hn', hc', oA', on', oc', pA, pn, pc, ecells, -⟩ := hB.2.1
    rw [ecells]
    rfl
  have hos1 : ∀ c ∈ os.take (headN n k), c.Ok := fun c hc => hos c (List.mem_of_mem_take hc)
  have hl1 : (os.take (headN n k)).length = headN n k := by rw [List.length_take]; omega
  have htv := take_tinv (os := os.take (headN n k)) (m := x.m) hinv hxok (by omega)
  have hTs : Ts W0 w2 w2 lb rb mb x.cells.toArray x.m A n cap os (headN n k) (os.take (headN n k)) :=
    ⟨hT.ops, hT.ops.head hle, hB, hT.low, hT.geL, hT.geR, hT.ltL, hT.ltR, hT.ne, ⟨Nat.le_refl _, fun _ _ _ => rfl⟩⟩
  refine takes14 _ a3 hf3 hTs hT.lane hT.ref hcells hxok hsm (by omega) hl1 hos1 hinv.next (offM_ok hinv hos1) htv.ok.holes fun a4 w4 hf4 h4 hl4 hr4 => ?_
  obtain ⟨l', hl'⟩ : ∃ l', l' = takeS l x.m (os.take (headN n k)) := ⟨_, rfl⟩
  rw [← hl'] at htv hl4 hr4
  clear hl' hTs
  show (part [1, 1, 1, 1, 1, 1, 0, 1, 0, 0, 1, 1, 0, 0, 1, 1, 1, 0, 1] (codeOf takesF)).wp Try.prog (Exit.then ((part [1, 1, 1, 1, 1, 1, 0, 1, 0, 0, 1, 1, 0, 0, 1, 1, 1, 1] (codeOf takesF)).wp Try.prog Q) Q) a4 w4
  refine wp_if (x := part [1, 1, 1, 1, 1, 1, 0, 1, 0, 0, 1, 1, 0, 0, 1, 1, 1, 0, 1, 0] (codeOf takesF)) (y := part [1, 1, 1, 1, 1, 1, 0, 1, 0, 0, 1, 1, 0, 0, 1, 1, 1, 0, 1, 1] (codeOf takesF)) (o := .tmp 129) (by kernel_rfl) (eval_at hf4.2.2.2.2.2.2.2.2.2.2.2.2.1 rfl) (fun ht => by cases ht) fun _ => ?_
  refine wp_nop (by kernel_rfl) ?_
  show (part [1, 1, 1, 1, 1, 1, 0, 1, 0, 0, 1, 1, 0, 0, 1, 1, 1, 1] (codeOf takesF)).wp Try.prog (Q) a4 w4
  refine wp_two (x := part [1, 1, 1, 1, 1, 1, 0, 1, 0, 0, 1, 1, 0, 0, 1, 1, 1, 1, 0] (codeOf takesF)) (y := part [1, 1, 1, 1, 1, 1, 0, 1, 0, 0, 1, 1, 0, 0, 1, 1, 1, 1, 1] (codeOf takesF)) (by kernel_rfl) ?_
  refine takes16 _ a4 ⟨hf4.1, hf4.2.1, hf4.2.2.1, hf4.2.2.2.1, hf4.2.2.2.2.1, hf4.2.2.2.2.2.1, hf4.2.2.2.2.2.2.1, hf4.2.2.2.2.2.2.2.2.1, hf4.2.2.2.2.2.2.2.2.2.1, hf4.2.2.2.2.2.2.2.2.2.2.1, hf4.2.2.2.2.2.2.2.2.2.2.2.1, trivial⟩ (by omega) fun a5 hf5 => ?_
  show (part [1, 1, 1, 1, 1, 1, 0, 1, 0, 0, 1, 1, 0, 0, 1, 1, 1, 1, 1] (codeOf takesF)).wp Try.prog (Q) a5 w4
  refine wp_if (x := part [1, 1, 1, 1, 1, 1, 0, 1, 0, 0, 1, 1, 0, 0, 1, 1, 1, 1, 1, 0] (codeOf takesF)) (y := part [1, 1, 1, 1, 1, 1, 0, 1, 0, 0, 1, 1, 0, 0, 1, 1, 1, 1, 1, 1] (codeOf takesF)) (o := .tmp 132) (by kernel_rfl) (eval_at hf5.2.2.2.2.2.2.2.2.2.2.2.1 rfl) (fun ht => ?_) fun _ => ?_
  · -- the copy
    refine wp_two (x := part [1, 1, 1, 1, 1, 1, 0, 1, 0, 0, 1, 1, 0, 0, 1, 1, 1, 1, 1, 0, 0] (codeOf takesF)) (y := part [1, 1, 1, 1, 1, 1, 0, 1, 0, 0, 1, 1, 0, 0, 1, 1, 1, 1, 1, 0, 1] (codeOf takesF)) (by kernel_rfl) ?_
    have hlC : LaneIs w4 (fun b => Two lb rb b ∧ b < w4.heap.size) lb l' := hl4.mono fun b hb hs => ⟨hs, hb⟩
    have hrC : RefIs w4 (fun b => Two lb rb b ∧ b < w4.heap.size) rb l' := hr4.mono fun b hb hs => ⟨hs, hb⟩
    refine takes17 _ a5 ⟨hf5.1, hf5.2.1, hf5.2.2.1, hf5.2.2.2.1, hf5.2.2.2.2.1, hf5.2.2.2.2.2.1, hf5.2.2.2.2.2.2.2.1, hf5.2.2.2.2.2.2.2.2.1, hf5.2.2.2.2.2.2.2.2.2.1, hf5.2.2.2.2.2.2.2.2.2.2.1, trivial⟩ hlC fun a6 w6 hf6 hn6 hb6 => ?_
    show (part [1, 1, 1, 1, 1, 1, 0, 1, 0, 0, 1, 1, 0, 0, 1, 1, 1, 1, 1, 0, 1] (codeOf takesF)).wp Try.prog (Q) a6 w6
    refine wp_two (x := part [1, 1, 1, 1, 1, 1, 0, 1, 0, 0, 1, 1, 0, 0, 1, 1, 1, 1, 1, 0, 1, 0] (codeOf takesF)) (y := part [1, 1, 1, 1, 1, 1, 0, 1, 0, 0, 1, 1, 0, 0, 1, 1, 1, 1, 1, 0, 1, 1] (codeOf takesF)) (by kernel_rfl) ?_
    have hltn := hn6.lt
    have hs6 := hb6.size
    have z1 := h4.ltL
    have z2 := h4.ltR
    have z3 := h4.low.size
    refine takes18 (S := Two lb rb) _ a6 hf6 (fun hh => hh.1 rfl) (fun b hb => ⟨by omega, by omega⟩) (hl4.below hb6) (answC_ok hep) (h4.some.below hb6) (by omega) fun a7 w7 hf7 ht7 => ?_
    show (part [1, 1, 1, 1, 1, 1, 0, 1, 0, 0, 1, 1, 0, 0, 1, 1, 1, 1, 1, 0, 1, 1] (codeOf takesF)).wp Try.prog (Q) a7 w7
    refine takes19 _ a7 hf7 fun a8 hf8 => ?_
    have hs7 := ht7.size
    have hlow : Below W0.heap.size W0 w7 := (h4.low.trans (hb6.mono h4.low.size)).trans (ht7.2.mono h4.geL)
    have hkp : Kept (fun b => Two lb rb b ∧ b < w4.heap.size) w6 w7 := ht7.kept fun hh => hh.1.1 rfl
    refine hQ a8 w7 w4.heap.size l' hf8 ⟨?_, hlow, z3, h4.geR, by omega, by omega, by omega, ?_, ?_⟩ htv
    · have hoC : OpsIs w4 (fun b => Two lb rb b ∧ b < w4.heap.size) A n cap os := h4.ops.mono fun b hb hs => ⟨hs, hb⟩
      exact ((hoC.below hb6).kept hkp).mono fun b _ hs => two_copy hs
    · exact (hn6.kept hkp (ht7.1 _ hltn (by omega))).mono fun b _ hs => two_copy hs
    · exact ((hrC.below hb6).kept hkp (ht7.1 rb (by omega) (Ne.symm h4.ne))).mono fun b _ hs => two_copy hs
  · refine wp_nop (by kernel_rfl) ?_
    exact hQ a5 w4 lb l' ⟨hf5.1, hf5.2.1, hf5.2.2.1, hf5.2.2.2.1, hf5.2.2.2.2.1, hf5.2.2.2.2.2.1, hf5.2.2.2.2.2.2.2.2.1, hf5.2.2.2.2.2.2.2.2.2.1, hf5.2.2.2.2.2.2.2.2.2.2.1, trivial⟩ ⟨h4.ops, h4.low, h4.geL, h4.geR, h4.ltL, h4.ltR, h4.ne, hl4, hr4⟩ htv

set_option maxRecDepth 100000 in
set_option maxHeartbeats 4000000 in
theorem takes9 {w : World} {lb rb : Nat} {A : Option Addr} {n cap : Nat} {ep : Int} {sA : Option Addr} {sn sc k : Nat} (Q : Exit → Act → World → Prop) (a : Act) (hfr : Fr 142 a [(0, .int .i64 ep), (3, .slice A n cap), (11, .pointer (some ⟨lb, 0, none⟩)), (13, .pointer (some ⟨rb, 0, none⟩)), (60, .slice sA sn sc), (61, .int .i64 (sn : Nat)), (62, .int .i64 (k : Nat))]) (hQ : ∀ a', Fr 142 a' [(0, .int .i64 ep), (3, .slice A n cap), (11, .pointer (some ⟨lb, 0, none⟩)), (13, .pointer (some ⟨rb, 0, none⟩)), (60, .slice sA sn sc), (61, .int .i64 (sn : Nat)), (62, .int .i64 (k : Nat)), (63, .bool (decide (k < sn)))] → Q .normal a' w) :
    (part [1, 1, 1, 1, 1, 1, 0, 1, 0, 0, 0] (codeOf takesF)).wp Try.prog Q a w := by
  have HQ := Lib.hid hQ
  clear hQ
  obtain ⟨t, df⟩ := a
  obtain ⟨hd, hs, h0, h3, h11, h13, h60, h61, h62, -⟩ := hfr
  simp only at hd hs h0 h3 h11 h13 h60 h61 h62
  subst hd
  rw [eta142 t hs, h0, h3, h11, h13, h60, h61, h62]
  clear hs h0 h3 h11 h13 h60 h61 h62
  conv => arg 2; whnf
  by_cases hk : k < sn
  · have d : decide ((k : Int) < (sn : Int)) = true := decide_eq_true (by omega)
    have HD := Lib.hid (decide_eq_true hk)
    clear hk
    go_wp2_with fail
    exact HQ.out _ ⟨rfl, rfl, rfl, rfl, rfl, rfl, rfl, rfl, rfl, by rw [HD.out]; rfl, trivial⟩
  · have d : decide ((k : Int) < (sn : Int)) = false := decide_eq_false (by omega)
    have HD := Lib.hid (decide_eq_false hk)
    clear hk
    go_wp2_with fail
    exact HQ.out _ ⟨rfl, rfl, rfl, rfl, rfl, rfl, rfl, rfl, rfl, by rw [HD.out]; rfl, trivial⟩

set_option maxRecDepth 100000 in
set_option maxHeartbeats 4000000 in
theorem takes20 {w : World} {lb rb : Nat} {A : Option Addr} {n cap : Nat} {ep : Int} {sA : Option Addr} {sn sc k : Nat} (Q : Exit → Act → World → Prop) (a : Act) (hfr : Fr 142 a [(0, .int .i64 ep), (3, .slice A n cap), (11, .pointer (some ⟨lb, 0, none⟩)), (13, .pointer (some ⟨rb, 0, none⟩)), (60, .slice sA sn sc), (61, .int .i64 (sn : Nat)), (62, .int .i64 (k : Nat))]) (hk : k < 1000) (hQ : ∀ a', Fr 142 a' [(0, .int .i64 ep), (3, .slice A n cap), (11, .pointer (some ⟨lb, 0, none⟩)), (13, .pointer (some ⟨rb, 0, none⟩)), (60, .slice sA sn sc), (61, .int .i64 (sn : Nat)), (62, .int .i64 ((k + 1 : Nat) : Nat))] → Q .normal a' w) :
    (part [1, 1, 1, 1, 1, 1, 0, 1, 0, 0, 1, 1, 1] (codeOf takesF)).wp Try.prog Q a w := by
  have HQ := Lib.hid hQ
  clear hQ
  obtain ⟨t, df⟩ := a
  obtain ⟨hd, hs, h0, h3, h11, h13, h60, h61, h62, -⟩ := hfr
  simp only at hd hs h0 h3 h11 h13 h60 h61 h62
  subst hd
  rw [eta142 t hs, h0, h3, h11, h13, h60, h61, h62]
  clear hs h0 h3 h11 h13 h60 h61 h62
  conv => arg 2; whnf
  go_wp2_with fail
  exact HQ.out _ ⟨rfl, rfl, rfl, rfl, rfl, rfl, rfl, rfl, by simp [at_], trivial⟩

/-- where the loop stands -/
def TsI (W0 : World) (rb : Nat) (A : Option Addr) (n cap : Nat) (os : List OpC) (ep st : Int) (sA : Option Addr) (sn sc : Nat) (a : Act) (w : World) : Prop :=
  ∃ (k lb : Nat) (l : LaneC), k ≤ sn ∧ Fr 142 a [(0, .int .i64 ep), (3, .slice A n cap), (11, .pointer (some ⟨lb, 0, none⟩)), (13, .pointer (some ⟨rb, 0, none⟩)), (60, .slice sA sn sc), (61, .int .i64 (sn : Nat)), (62, .int .i64 (k : Nat))] ∧ Tr W0 w lb rb A n cap os l ∧ TInv ep st l
def muT (sn : Nat) (a : Act) : Nat := sn - (match at_ a.tmps 62 with | .int _ z => z.toNat | _ => 0)

set_option maxRecDepth 100000 in
set_option maxHeartbeats 4000000 in
theorem takes_loop {W0 w : World} {lb rb : Nat} {l : LaneC} {A : Option Addr} {n cap : Nat} {os : List OpC} {ep st : Int} {sA : Option Addr} {sn sc : Nat} (xs : List MsgX) (a : Act)
    (hfr : Fr 142 a [(0, .int .i64 ep), (3, .slice A n cap), (4, .slice sA sn sc), (11, .pointer (some ⟨lb, 0, none⟩)), (13, .pointer (some ⟨rb, 0, none⟩))])
    (h : Tr W0 w lb rb A n cap os l) (hinv : TInv ep st l) (hm : MsgsIs W0 Any sA sn xs) (hsn : sn ≤ 100) (hn : n ≤ 4294967296) (hos : ∀ c ∈ os, c.Ok) (hep : I64 ep) :
    (part [1, 1, 1, 1, 1, 1] (codeOf takesF)).wp Try.prog (takesQ W0) a w := by
  have HT := Lib.hid h
  have HV := Lib.hid hinv
  -- a round
  have round : ∀ (Q : Exit → Act → World → Prop) (hret : ∀ a' w', takesQ W0 .ret a' w' → Q .ret a' w') (hexit : ∀ a' w', Below W0.heap.size W0 w' → a'.defers = [] → a'.tmps.size = 142 → Q (.exit 0) a' w')
      (a : Act) (w : World), TsI W0 rb A n cap os ep st sA sn sc a w → (∀ a' w', TsI W0 rb A n cap os ep st sA sn sc a' w' ∧ muT sn a' < muT sn a → Q .normal a' w') → (part [1, 1, 1, 1, 1, 1, 0, 1, 0, 0] (codeOf takesF)).wp Try.prog Q a w := by
    intro Q hret hexit a w hI hQ
    obtain ⟨k, lb, l, hk, hf, hh, hv⟩ := hI
    refine wp_two (x := part [1, 1, 1, 1, 1, 1, 0, 1, 0, 0, 0] (codeOf takesF)) (y := part [1, 1, 1, 1, 1, 1, 0, 1, 0, 0, 1] (codeOf takesF)) (by kernel_rfl) ?_
    refine takes9 _ a hf fun a1 hf1 => ?_
    show (part [1, 1, 1, 1, 1, 1, 0, 1, 0, 0, 1] (codeOf takesF)).wp Try.prog (Q) a1 w
    refine wp_two (x := part [1, 1, 1, 1, 1, 1, 0, 1, 0, 0, 1, 0] (codeOf takesF)) (y := part [1, 1, 1, 1, 1, 1, 0, 1, 0, 0, 1, 1] (codeOf takesF)) (by kernel_rfl) ?_
    refine wp_if (x := part [1, 1, 1, 1, 1, 1, 0, 1, 0, 0, 1, 0, 0] (codeOf takesF)) (y := part [1, 1, 1, 1, 1, 1, 0, 1, 0, 0, 1, 0, 1] (codeOf takesF)) (o := .tmp 63) (by kernel_rfl) (eval_at hf1.2.2.2.2.2.2.2.2.2.1 rfl) (fun ht => ?_) fun ht => ?_
    · have hk1 : k < sn := of_decide_eq_true ht
      refine wp_nop (by kernel_rfl) ?_
      show (part [1, 1, 1, 1, 1, 1, 0, 1, 0, 0, 1, 1] (codeOf takesF)).wp Try.prog (Q) a1 w
      refine wp_two (x := part [1, 1, 1, 1, 1, 1, 0, 1, 0, 0, 1, 1, 0] (codeOf takesF)) (y := part [1, 1, 1, 1, 1, 1, 0, 1, 0, 0, 1, 1, 1] (codeOf takesF)) (by kernel_rfl) ?_
      refine wp_blk (x := part [1, 1, 1, 1, 1, 1, 0, 1, 0, 0, 1, 1, 0, 0] (codeOf takesF)) (id := 1) (by kernel_rfl) ?_
      refine takes_round xs _ a1 ⟨hf1.1, hf1.2.1, hf1.2.2.1, hf1.2.2.2.1, hf1.2.2.2.2.1, hf1.2.2.2.2.2.1, hf1.2.2.2.2.2.2.1, hf1.2.2.2.2.2.2.2.1, hf1.2.2.2.2.2.2.2.2.1, trivial⟩ hh hv hm hk1 hsn hn hos hep (fun a' w' hq => hret a' w' hq) fun a2 w2 lb2 l2 hf2 h2 hv2 => ?_
      show (part [1, 1, 1, 1, 1, 1, 0, 1, 0, 0, 1, 1, 1] (codeOf takesF)).wp Try.prog (Q) a2 w2
      refine takes20 _ a2 hf2 (by omega) fun a3 hf3 => hQ a3 w2 ⟨⟨k + 1, lb2, l2, by omega, hf3, h2, hv2⟩, ?_⟩
      have e1 : at_ a.tmps 62 = .int .i64 (k : Nat) := hf.2.2.2.2.2.2.2.2.1
      have e2 : at_ a3.tmps 62 = .int .i64 ((k + 1 : Nat) : Nat) := hf3.2.2.2.2.2.2.2.2.1
      unfold muT
      rw [e1, e2]
      simp only [Int.toNat_natCast]
      omega
    · have e : part [1, 1, 1, 1, 1, 1, 0, 1, 0, 0, 1, 0, 1] (codeOf takesF) = Code.exit 0 := by kernel_rfl
      rw [e]
      exact wp_exit (hexit a1 w hh.low hf1.1 hf1.2.1)
  have HR := Lib.hid round
  have HM := Lib.hid hm
  clear round h hinv hm hos
  refine wp_two (x := part [1, 1, 1, 1, 1, 1, 0] (codeOf takesF)) (y := part [1, 1, 1, 1, 1, 1, 1] (codeOf takesF)) (by kernel_rfl) ?_
  refine wp_two (x := part [1, 1, 1, 1, 1, 1, 0, 0] (codeOf takesF)) (y := part [1, 1, 1, 1, 1, 1, 0, 1] (codeOf takesF)) (by kernel_rfl) ?_
  -- the loop's head
  have start : ∀ (Q : Exit → Act → World → Prop), (∀ a', Fr 142 a' [(0, .int .i64 ep), (3, .slice A n cap), (11, .pointer (some ⟨lb, 0, none⟩)), (13, .pointer (some ⟨rb, 0, none⟩)), (60, .slice sA sn sc), (61, .int .i64 (sn : Nat)), (62, .int .i64 ((0 : Nat) : Nat))] → Q .normal a' w) → (part [1, 1, 1, 1, 1, 1, 0, 0] (codeOf takesF)).wp Try.prog Q a w := by
    intro Q hQ
    have HQ := Lib.hid hQ
    clear hQ
    obtain ⟨t, df⟩ := a
    obtain ⟨hd, hs, h0, h3, h4, h11, h13, -⟩ := hfr
    simp only at hd hs h0 h3 h4 h11 h13
    subst hd
    rw [eta142 t hs, h0, h3, h4, h11, h13]
    clear hs h0 h3 h4 h11 h13
    conv => arg 2; whnf
    go_wp2_with fail
    exact HQ.out _ ⟨rfl, rfl, rfl, rfl, rfl, rfl, rfl, rfl, rfl, trivial⟩
  refine start _ fun a1 hf1 => ?_
  clear start
  show (part [1, 1, 1, 1, 1, 1, 0, 1] (codeOf takesF)).wp Try.prog (Exit.then ((part [1, 1, 1, 1, 1, 1, 1] (codeOf takesF)).wp Try.prog (takesQ W0)) (takesQ W0)) a1 w
  refine wp_blk (x := part [1, 1, 1, 1, 1, 1, 0, 1, 0] (codeOf takesF)) (id := 0) (by kernel_rfl) ?_
  have el : part [1, 1, 1, 1, 1, 1, 0, 1, 0] (codeOf takesF) = Code.loop (part [1, 1, 1, 1, 1, 1, 0, 1, 0, 0] (codeOf takesF)) := by kernel_rfl
  rw [el]
  -- what stands behind the loop
  have after : ∀ (a' : Act) (w' : World), Below W0.heap.size W0 w' → a'.defers = [] → a'.tmps.size = 142 → (part [1, 1, 1, 1, 1, 1, 1] (codeOf takesF)).wp Try.prog (takesQ W0) a' w' := by
    intro a w' hb hd hs
    have HB := Lib.hid hb
    have hfr : Fr 142 a [(0, at_ a.tmps 0)] := ⟨hd, hs, rfl, trivial⟩
    clear hb hd hs
    obtain ⟨v0, hv0⟩ : ∃ v0, v0 = at_ a.tmps 0 := ⟨_, rfl⟩
    rw [← hv0] at hfr
    clear hv0
    obtain ⟨t, df⟩ := a
    obtain ⟨hd, hs, h0, -⟩ := hfr
    simp only at hd hs h0
    subst hd
    rw [eta142 t hs, h0]
    clear hs h0
    conv => arg 2; whnf
    go_wp2_with fail
    exact bodyPost_ret (results_tmp rfl _ _ _) rfl ⟨rfl, HB.out⟩
  refine wp_loop (TsI W0 rb A n cap os ep st sA sn sc) (fun a _ => muT sn a) ⟨0, lb, l, Nat.zero_le _, hf1, HT.out, HV.out⟩ fun a2 w2 hI => ?_
  refine HR.out _ ?_ ?_ a2 w2 hI ?_
  · exact fun a' w' hq => hq
  · exact fun a' w' hb hd hs => after a' w' hb hd hs
  · exact fun a' w' hh => hh
end Go.Proofs.Ytaipgdhdfpemcaa

namespace Go.Proofs.Ytaipgdhdfpemcaa
open Go.RowKit

set_option maxRecDepth 100000 in
set_option maxHeartbeats 4000000 in
theorem takes7 (W w : World) (a : Act) (ep site nx : Int) (lb rb : Nat) (A : Option Addr) (n cap : Nat) (os : List OpC) (sA : Option Addr) (sn sc : Nat) (xs : List MsgX)
    (hfr : Fr 142 a [(0, .int .i64 ep), (3, .slice A n cap), (4, .slice sA sn sc), (11, .pointer (some ⟨lb, 0, none⟩)), (13, .pointer (some ⟨rb, 0, none⟩))])
    (hl : Blk w lb 127 (laneC 0 0 0 0 none 0 0 ep site nx)) (hr : Blk w rb 87 (rlaneC 0 0 0 0 none 0 0 ep site nx)) (hlb : W.heap.size ≤ lb) (hrb : W.heap.size ≤ rb) (hne : lb ≠ rb) (hb : Below W.heap.size W w)
    (ho : OpsIs W Any A n cap os) (hn : n ≤ 4294967296) (hos : ∀ c ∈ os, c.Ok) (hA : A = none → cap = 0) (hm : MsgsIs W Any sA sn xs) (hsn : sn ≤ 100) (hep : I64 ep) (hsite : I64 site) (hnx : 0 ≤ nx ∧ nx ≤ 80) :
    (part [1, 1, 1, 1, 1] (codeOf takesF)).wp Try.prog (takesQ W) a w := by
  have HL := Lib.hid hl
  have HRE := Lib.hid hr
  have HB := Lib.hid hb
  have HO := Lib.hid ho
  have HOS := Lib.hid hos
  have HM := Lib.hid hm
  have HLB := Lib.hid hlb
  have HRB := Lib.hid hrb
  have HNE := Lib.hid hne
  have HS := Lib.hid hsite
  have HE := Lib.hid hep
  have HNX := Lib.hid hnx
  have HAA := Lib.hid hA
  have HN := Lib.hid hn
  clear hl hr hb ho hos hm hlb hrb hne hsite hep hnx hA hn
  refine wp_two (x := part [1, 1, 1, 1, 1, 0] (codeOf takesF)) (y := part [1, 1, 1, 1, 1, 1] (codeOf takesF)) (by kernel_rfl) ?_
  have r7 : ∀ (Q : Exit → Act → World → Prop), (∀ a' w' A' n' cap', Fr 142 a' [(0, .int .i64 ep), (3, .slice A' n' cap'), (4, .slice sA sn sc), (11, .pointer (some ⟨lb, 0, none⟩)), (13, .pointer (some ⟨rb, 0, none⟩))] → OpsIs w' (From w.heap.size) A' n' cap' (numbC os) → n' ≤ 80 → Below w.heap.size w w' → Q .normal a' w') →
      (part [1, 1, 1, 1, 1, 0] (codeOf takesF)).wp Try.prog Q a w := by
    intro Q hQ
    have HQ := Lib.hid hQ
    clear hQ
    obtain ⟨t, df⟩ := a
    obtain ⟨hd, hs, h0, h3, h4, h11, h13, -⟩ := hfr
    simp only at hd hs h0 h3 h4 h11 h13
    subst hd
    rw [eta142 t hs, h0, h3, h4, h11, h13]
    clear hs h0 h3 h4 h11 h13
    conv => arg 2; whnf
    go_wp2_with fail
    refine (numbered_any A n cap os w (HO.out.below HB.out) HN.out HOS.out HAA.out).mono ?_
    rintro e w1 ⟨A', n', cap', rfl, ho1, hn1, hb1⟩
    have HO1 := Lib.hid ho1
    have HB1 := Lib.hid hb1
    clear ho1 hb1
    go_wp2_with fail
    exact HQ.out _ _ A' n' cap' ⟨rfl, rfl, rfl, rfl, rfl, rfl, rfl, trivial⟩ HO1.out hn1 HB1.out
  refine r7 _ fun a1 w1 A' n' cap' hf1 ho1 hn1 hb1 => ?_
  clear r7
  show (part [1, 1, 1, 1, 1, 1] (codeOf takesF)).wp Try.prog (takesQ W) a1 w1
  have hl1 := HL.out.below hb1 HL.out.lt
  have hr1 := HRE.out.below hb1 HRE.out.lt
  have hltl := HL.out.lt
  have hltr := HRE.out.lt
  have hsz := HB.out.size
  have hs1' := hb1.size
  have hlow : Below W.heap.size W w1 := HB.out.trans (hb1.mono hsz)
  have hlane : LaneIs w1 (Two lb rb) lb ⟨0, 0, 0, 0, [], ep, site, nx⟩ := ⟨none, 0, 0, hl1, ⟨Rs.nil_ _ _ _ _, Nat.le_refl _, Nat.zero_le _⟩⟩
  have href : RefIs w1 (Two lb rb) rb ⟨0, 0, 0, 0, [], ep, site, nx⟩ := ⟨none, 0, 0, hr1, ⟨Rs.nil_ _ _ _ _, Nat.le_refl _, Nat.zero_le _⟩⟩
  have hops : OpsIs w1 (Two lb rb) A' n' cap' (numbC os) := ho1.mono (S' := Two lb rb) fun b hb h => ⟨by have : w.heap.size ≤ b := h; omega, by have : w.heap.size ≤ b := h; omega⟩
  have i0 : I64 0 := ⟨by omega, by omega⟩
  have hx := HNX.out
  have inx : I64 nx := ⟨by omega, by omega⟩
  refine takes_loop xs a1 hf1 (l := ⟨0, 0, 0, 0, [], ep, site, nx⟩) (os := numbC os) (st := site) ⟨hops, hlow, HLB.out, HRB.out, by omega, by omega, HNE.out, hlane, href⟩ ?_ HM.out hsn (by omega) (numbC_ok HOS.out) HE.out
  exact ⟨⟨i0, i0, i0, i0, by simp, by simp, HE.out, HS.out, inx⟩, rfl, rfl, hx.1⟩

set_option maxRecDepth 100000 in
set_option maxHeartbeats 4000000 in
theorem takes_walk (W : World) (ep site nx : Int) (A : Option Addr) (n cap : Nat) (os : List OpC) (sA : Option Addr) (sn sc : Nat) (xs : List MsgX)
    (ho : OpsIs W Any A n cap os) (hcz : cap * 96 ≤ 140737488351232) (hos : ∀ c ∈ os, c.Ok) (hA : A = none → cap = 0) (hm : MsgsIs W Any sA sn xs) (hsc : sn ≤ 140737488351232) (hep : I64 ep) :
    Calls Try.prog 6 #[.int .i64 ep, .int .i64 site, .int .i64 nx, .slice A n cap, .slice sA sn sc] W fun e w' => e = .returned (.bool true) ∧ Below W.heap.size W w' := by
  have hnc : n ≤ cap := by obtain ⟨_, _, _, h, _⟩ := ho; exact h
  have hlen := ho.len
  have HO := Lib.hid ho
  have HOS := Lib.hid hos
  have HA := Lib.hid hA
  have HM := Lib.hid hm
  have HE := Lib.hid hep
  have hnz : n * 96 ≤ 140737488351232 := by omega
  have HNZ := Lib.hid hnz
  have HLEN := Lib.hid hlen
  clear ho hos hA hm hep hnz hlen
  by_cases hnew : newB ep site nx = true
  · have hb := of_decide_eq_true hnew
    have HNEW := Lib.hid hb
    clear hnew hb
    have hwa : Below W.heap.size W (W.alloc (.cells (laneC 0 0 0 0 none 0 0 ep site nx) 127)) := (Below.refl _ _).alloc (Nat.le_refl _) _
    have hbk := Blk.new W 127 (laneC 0 0 0 0 none 0 0 ep site nx)
    obtain ⟨wa, hwae⟩ : ∃ wa, wa = W.alloc (.cells (laneC 0 0 0 0 none 0 0 ep site nx) 127) := ⟨_, rfl⟩
    rw [← hwae] at hwa hbk
    have hwz : W.heap.size < wa.heap.size := hbk.lt
    have hwb : Below wa.heap.size wa (wa.alloc (.cells (rlaneC 0 0 0 0 none 0 0 ep site nx) 87)) := (Below.refl _ _).alloc (Nat.le_refl _) _
    have hrk := Blk.new wa 87 (rlaneC 0 0 0 0 none 0 0 ep site nx)
    obtain ⟨wb, hwbe⟩ : ∃ wb, wb = wa.alloc (.cells (rlaneC 0 0 0 0 none 0 0 ep site nx) 87) := ⟨_, rfl⟩
    rw [← hwbe] at hwb hrk
    have HWB := Lib.hid (hwa.trans (hwb.mono hwa.size))
    have HBK := Lib.hid (hbk.below hwb hbk.lt)
    have HRK := Lib.hid hrk
    have HWZ := Lib.hid hwz
    have HAE := Lib.hid hwae
    have HBE := Lib.hid hwbe
    clear hwa hwb hbk hrk hwz hwae hwbe
    go_enter Try.func6, Try.ntmps6
    conv => arg 2; arg 2; arg 2; arg 2; arg 2; arg 2; change part [1, 1, 1, 1, 1] (codeOf takesF)
    go_wp2_with fail
    refine (newL_ok ep site nx W (by have := HNEW.out; omega) (by have := HNEW.out; omega) (by have := HNEW.out; omega)).mono ?_
    rintro e w1 ⟨rfl, hw1⟩
    obtain rfl : w1 = wa := hw1.trans HAE.out.symm
    clear hw1
    go_wp2_with fail
    refine (newR_ok ep site nx w1 (by have := HNEW.out; omega) (by have := HNEW.out; omega) (by have := HNEW.out; omega)).mono ?_
    rintro e w2 ⟨rfl, hw2⟩
    obtain rfl : w2 = wb := hw2.trans HBE.out.symm
    clear hw2
    go_wp2_with fail
    refine (awake_any _).mono ?_
    rintro e w3 ⟨rfl, hb3⟩
    have HB3 := Lib.hid (HWB.out.trans (hb3.mono HWB.out.size))
    have HK3 := Lib.hid (HBK.out.below hb3 HBK.out.lt)
    have HR3 := Lib.hid (HRK.out.below hb3 HRK.out.lt)
    clear hb3
    go_wp2_with fail
    refine (great_any A n cap os w3 (HO.out.below HB3.out) HNZ.out HOS.out).mono ?_
    rintro e w4 ⟨rfl, hb4⟩
    have HB4 := Lib.hid (HB3.out.trans (hb4.mono HB3.out.size))
    have HK4 := Lib.hid (HK3.out.below hb4 HK3.out.lt)
    have HR4 := Lib.hid (HR3.out.below hb4 HR3.out.lt)
    clear hb4
    by_cases hg : 4096 < bigOf os
    · have dg : decide (4096 < bigOf os) = true := decide_eq_true hg
      rw [dg]
      clear hg dg
      go_wp2_with fail
      go_ret
      exact ⟨rfl, HB4.out⟩
    · have dg : decide (4096 < bigOf os) = false := decide_eq_false hg
      rw [dg]
      have hbig := bigOf_len os
      have hn1 : n ≤ 4294967296 := by have := HLEN.out; omega
      clear hg dg
      by_cases h100 : 100 < sn
      · have d1 : decide ((100 : Int) < (sn : Nat)) = true := decide_eq_true (by omega)
        clear h100
        go_wp2_with fail
        go_ret
        exact ⟨rfl, HB4.out⟩
      · have d1 : decide ((100 : Int) < (sn : Nat)) = false := decide_eq_false (by omega)
        go_wp2_with fail
        have hz := HNEW.out
        have hwz := HWZ.out
        exact takes7 W w4 _ ep site nx W.heap.size w1.heap.size A n cap os sA sn sc xs ⟨rfl, rfl, rfl, rfl, rfl, rfl, rfl, trivial⟩ HK4.out HR4.out (Nat.le_refl _) (by omega) (by omega) HB4.out HO.out hn1 HOS.out HA.out HM.out (by omega) HE.out ⟨by omega, by omega⟩ ⟨by omega, by omega⟩
  · have hnew' : newB ep site nx = false := by simpa using hnew
    have HNEW := Lib.hid hnew'
    clear hnew hnew'
    go_enter Try.func6, Try.ntmps6
    conv => arg 2; arg 2; arg 2; arg 2; arg 2; arg 2; change part [1, 1, 1, 1, 1] (codeOf takesF)
    go_wp2_with fail
    refine (newL_no ep site nx W HNEW.out).mono ?_
    rintro e w1 ⟨rfl, rfl⟩
    go_wp2_with fail
    refine (newR_no ep site nx w1 HNEW.out).mono ?_
    rintro e w2 ⟨rfl, rfl⟩
    go_wp2_with fail
    refine (awake_any _).mono ?_
    rintro e w3 ⟨rfl, hb3⟩
    have HB3 := Lib.hid hb3
    clear hb3
    go_wp2_with fail
    go_ret
    exact ⟨rfl, HB3.out⟩
/-- the walk, as the frame asks it -/
theorem laneTakes_walk (W : World) (ep : Int) (hep : -9223372036854775808 ≤ ep ∧ ep ≤ 9223372036854775807) (site : Int) (_hsite : -9223372036854775808 ≤ site ∧ site ≤ 9223372036854775807) (nx : Int) (_hnx : -9223372036854775808 ≤ nx ∧ nx ≤ 9223372036854775807) (A : Option Addr) (n cap : Nat) (os : List OpC) (ho : OpsIs W Any A n cap os) (hcz : cap * 96 ≤ 140737488351232) (hos : ∀ c ∈ os, c.Ok) (hA : A = none → cap = 0)
    (sA : Option Addr) (sn sc : Nat) (xs : List MsgX) (hm : MsgsIs W Any sA sn xs) (hsc : sn ≤ sc) (hsz : sc * 208 ≤ 140737488351232) (_hsA : sA = none → sc = 0) :
    Calls Try.prog 6 #[.int .i64 ep, .int .i64 site, .int .i64 nx, .slice A n cap, .slice sA sn sc] W fun e w' => e = .returned (.bool true) ∧ Below W.heap.size W w' :=
  takes_walk W ep site nx A n cap os sA sn sc xs ho hcz hos hA hm (by omega) hep
end Go.Proofs.Ytaipgdhdfpemcaa
