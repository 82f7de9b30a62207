/-
  THE WALKS OF THE LANE: Take, in general: its last regions, and whole. (wip/gen/take2.py prints this text.)
-/
import Derived.Test.YtaipgdhdfpemcaaLaTk
import Derived.Test.YtaipgdhdfpemcaaFr2
import Derived.Test.YtaipgdhdfpemcaaLaCheck10
namespace Go.Proofs.Ytaipgdhdfpemcaa
open Go.RowKit

theorem Turn.kept {S : Nat → Prop} {g : Nat} {w w' : World} (h : Turn g w w') (hg : ¬ S g) : Kept S w w' := ⟨h.size, fun b h1 h2 => h.1 b h2 (by rintro rfl; exact hg h1)⟩
theorem Turn.blk {g b : Nat} {w w' : World} {t : TypeId} {cs : Array Value} (h : Turn g w w') (hb : Blk w b t cs) (hne : b ≠ g) : Blk w' b t cs := (h.1 b hb.lt hne).trans hb

set_option maxRecDepth 100000 in
set_option maxHeartbeats 4000000 in
theorem take10 {w0 w : World} {S : Nat → Prop} {lb bx : Nat} {l : LaneC} {m : MailC} {A : Option Addr} {n cap : Nat} {os : List OpC} (Q : Exit → Act → World → Prop) (a : Act) (hL : ¬ S lb) (hU : ∀ b, w0.heap.size ≤ b → S b) (hfr : Fr 109 a [(0, .pointer (some ⟨lb, 0, none⟩)), (2, .slice A n cap), (4, .pointer (some ⟨bx, 0, none⟩))]) (h : Tk w0 w S lb bx l m A n cap os) (hz : m.holes.length * 8 ≤ 140737488351232)
    (hQ : ∀ a' w', Fr 109 a' [(0, .pointer (some ⟨lb, 0, none⟩)), (2, .slice A n cap), (4, .pointer (some ⟨bx, 0, none⟩))] → Tk w0 w' S lb bx { l with wN := m.whN, wE := m.whE, holes := m.holes } m A n cap os → Q .normal a' w') :
    (part [1, 1, 0, 0, 1, 1, 1, 0, 1, 1, 0] (codeOf takeF)).wp Try.prog Q a w := by
  have HT := Lib.hid h
  have HQ := Lib.hid hQ
  have HL := Lib.hid hL
  have HU := Lib.hid hU
  clear h hQ hL hU
  obtain ⟨t, df⟩ := a
  obtain ⟨hd, hs, h0, h2, h4, -⟩ := hfr
  simp only at hd hs h0 h2 h4
  subst hd
  rw [eta109 t hs, h0, h2, h4]
  clear hs h0 h2 h4
  conv => arg 2; whnf
  obtain ⟨l1, hl1⟩ : ∃ l1, l1 = ({ l with wN := m.whN, wE := m.whE, holes := m.holes } : LaneC) := ⟨_, rfl⟩
  have HE := Lib.hid hl1
  clear hl1
  obtain ⟨eA, en, ec, hA, hn', hc, oA, on, oc, pA, pn, pc, kb, ko⟩ := HT.out.box
  have hlen := ko.len
  have HN := Lib.hid (show on * 8 ≤ 140737488351232 by omega)
  obtain ⟨cells, hcells⟩ : ∃ cells, cells = mailC m.kind m.term m.index m.prev m.commit m.good eA en ec m.data hA hn' hc m.epoch m.site m.atN m.atE m.whN m.whE oA on oc pA pn pc := ⟨_, rfl⟩
  rw [← hcells] at kb
  have HC := Lib.hid hcells
  have KB := Lib.hid kb
  have KO := Lib.hid ko
  clear hcells kb ko hlen hz
  refine wp_region_all (by kernel_rfl) (fun i v W => match i with | 0 => v = .pointer (some ⟨lb, 0, none⟩) | 1 => v = .pointer (some ⟨bx, 13, none⟩) | 2 => v = .agg #[.int .i64 m.whN, .int .i64 m.whE] | 3 => v = .pointer (some ⟨bx, 15, none⟩) | 4 => v = .slice oA on oc | 5 => ∃ A c, v = .slice A on c ∧ IntIs W S A on c m.holes | 6 => ∃ A c, v = .agg #[.int .i64 m.whN, .int .i64 m.whE, .slice A on c] ∧ IntIs W S A on c m.holes | 7 => v = .pointer (some ⟨lb, 0, none⟩) | 8 => v = .pointer (some ⟨lb, 0, none⟩) | 9 => v = .pointer (some ⟨lb, 2, none⟩) | 10 => LaneIs W S lb l1 | _ => True) (fun W => Tk2 w0 W S lb bx l l1 m A n cap os ∧ Blk W bx 30 cells ∧ IntIs W S oA on oc m.holes) (fun W W' => Turn lb W W' ∧ (LaneIs W S lb l1 → LaneIs W' S lb l1)) (by kernel_rfl) ?hG ?hmono ?hstep ?hend
  case hG => exact ⟨HT.out.drew.two, KB.out.drew, KO.out⟩
  case hmono =>
    intro i v W W' hx hv
    match i with
    | 5 =>
      obtain ⟨A', c', rfl, hi⟩ := hv
      exact ⟨A', c', rfl, hi.kept (hx.1.kept HL.out)⟩
    | 6 =>
      obtain ⟨A', c', rfl, hi⟩ := hv
      exact ⟨A', c', rfl, hi.kept (hx.1.kept HL.out)⟩
    | 10 =>
      exact hx.2 hv
    | 0 | 1 | 2 | 3 | 4 | 7 | 8 | 9 => exact hv
    | i + 11 => exact hv
  case hstep =>
    intro i o F U W ho hGW hat hoff hp
    have hrefl := fun W : World => (⟨Turn.refl _ _, fun h => h⟩ : Turn lb W W ∧ (LaneIs W S lb l1 → LaneIs W S lb l1))
    match i with
      | 0 =>
        injection (show some _ = some o from ho) with ho
        subst ho
        refine on_ (wanted_none rfl) ?_
        have e0 : F.eval (.tmp 0) = .pointer (some ⟨lb, 0, none⟩) := (hoff 0 (of_decide_eq_true (by kernel_rfl))).trans rfl
        exact wp_move' (.tmp 0) rfl ⟨_, rfl, e0, hGW, hrefl W⟩
      | 1 =>
        injection (show some _ = some o from ho) with ho
        subst ho
        refine on_ (wanted_none rfl) ?_
        have e4 : F.eval (.tmp 4) = .pointer (some ⟨bx, 0, none⟩) := (hoff 4 (of_decide_eq_true (by kernel_rfl))).trans rfl
        have t4 := act_tmp e4
        clear hat hoff hp
        exact wp_value' (.pointer (some ⟨bx, 13, none⟩)) W (by unfold execOp; go_simp) ⟨_, rfl, rfl, hGW, hrefl W⟩
      | 2 =>
        injection (show some _ = some o from ho) with ho
        subst ho
        refine on_ (wanted_none rfl) ?_
        have e98 : F.eval (.tmp 98) = .pointer (some ⟨bx, 13, none⟩) := (hat 1 98 (of_decide_eq_true (by kernel_rfl)) rfl).trans (hp ⟨1, .data⟩ (by simp) rfl : U 1 = .pointer (some ⟨bx, 13, none⟩))
        have t98 := act_tmp e98
        clear hat hoff hp
        have d0 := hGW.2.1.cell 13
        have d1 := hGW.2.1.cell 14
        simp [HC.out] at d0 d1
        exact wp_value' (.agg #[.int .i64 m.whN, .int .i64 m.whE]) W (by unfold execOp; go_simp) ⟨_, rfl, rfl, hGW, hrefl W⟩
      | 3 =>
        injection (show some _ = some o from ho) with ho
        subst ho
        refine on_ (wanted_none rfl) ?_
        have e4 : F.eval (.tmp 4) = .pointer (some ⟨bx, 0, none⟩) := (hoff 4 (of_decide_eq_true (by kernel_rfl))).trans rfl
        have t4 := act_tmp e4
        clear hat hoff hp
        exact wp_value' (.pointer (some ⟨bx, 15, none⟩)) W (by unfold execOp; go_simp) ⟨_, rfl, rfl, hGW, hrefl W⟩
      | 4 =>
        injection (show some _ = some o from ho) with ho
        subst ho
        refine on_ (wanted_none rfl) ?_
        have e100 : F.eval (.tmp 100) = .pointer (some ⟨bx, 15, none⟩) := (hat 3 100 (of_decide_eq_true (by kernel_rfl)) rfl).trans (hp ⟨3, .data⟩ (by simp) rfl : U 3 = .pointer (some ⟨bx, 15, none⟩))
        have t100 := act_tmp e100
        clear hat hoff hp
        have d0 := hGW.2.1.cell 15
        simp [HC.out] at d0
        exact wp_value' (.slice oA on oc) W (by unfold execOp; go_simp) ⟨_, rfl, rfl, hGW, hrefl W⟩
      | 5 =>
        injection (show some _ = some o from ho) with ho
        subst ho
        refine on_ (wanted_none rfl) ?_
        have e101 : F.eval (.tmp 101) = .slice oA on oc := (hat 4 101 (of_decide_eq_true (by kernel_rfl)) rfl).trans (hp ⟨4, .data⟩ (by simp) rfl : U 4 = .slice oA on oc)
        have t101 := act_tmp e101
        clear hat hoff hp
        refine wp_enter' 61 #[.slice oA on oc] (by unfold execOp; go_simp) ?_
        refine (cloneInts_any W hGW.2.2 HN.out).mono ?_
        rintro e W' ⟨A', c', rfl, hi, hb⟩
        exact ⟨_, rfl, _, rfl, ⟨A', c', rfl, hi.mono fun b _ h => HU.out b (Nat.le_trans hGW.1.turn.size h)⟩, ⟨hGW.1.below hb, hGW.2.1.below hb hGW.2.1.lt, hGW.2.2.below hb⟩, Turn.of (Nat.le_of_lt hGW.1.lt) hb, fun h => h.below hb⟩
      | 6 =>
        injection (show some _ = some o from ho) with ho
        subst ho
        refine on_ (wanted_none rfl) ?_
        have e99 : F.eval (.tmp 99) = .agg #[.int .i64 m.whN, .int .i64 m.whE] := (hat 2 99 (of_decide_eq_true (by kernel_rfl)) rfl).trans (hp ⟨2, .data⟩ (by simp) rfl : U 2 = .agg #[.int .i64 m.whN, .int .i64 m.whE])
        have t99 := act_tmp e99
        have e102 := hat 5 102 (of_decide_eq_true (by kernel_rfl)) rfl
        have v102 := hp ⟨5, .data⟩ (by simp) rfl
        clear hat hoff hp
        obtain ⟨A', c', h102, hi⟩ := v102
        rw [h102] at e102
        have t102 := act_tmp e102
        exact wp_value' (.agg #[.int .i64 m.whN, .int .i64 m.whE, .slice A' on c']) W (by unfold execOp; go_simp) ⟨_, rfl, ⟨A', c', rfl, hi⟩, hGW, hrefl W⟩
      | 7 =>
        injection (show some _ = some o from ho) with ho
        subst ho
        refine on_ (wanted_none rfl) ?_
        have e97 : F.eval (.tmp 97) = .pointer (some ⟨lb, 0, none⟩) := (hat 0 97 (of_decide_eq_true (by kernel_rfl)) rfl).trans (hp ⟨0, .data⟩ (by simp) rfl : U 0 = .pointer (some ⟨lb, 0, none⟩))
        have t97 := act_tmp e97
        clear hat hoff hp
        exact wp_value' (.pointer (some ⟨lb, 0, none⟩)) W (by unfold execOp; go_simp) ⟨_, rfl, rfl, hGW, hrefl W⟩
      | 8 =>
        injection (show some _ = some o from ho) with ho
        subst ho
        refine on_ (wanted_none rfl) ?_
        have e104 : F.eval (.tmp 104) = .pointer (some ⟨lb, 0, none⟩) := (hat 7 104 (of_decide_eq_true (by kernel_rfl)) rfl).trans (hp ⟨7, .data⟩ (by simp) rfl : U 7 = .pointer (some ⟨lb, 0, none⟩))
        have t104 := act_tmp e104
        clear hat hoff hp
        exact wp_value' (.pointer (some ⟨lb, 0, none⟩)) W (by unfold execOp; go_simp) ⟨_, rfl, rfl, hGW, hrefl W⟩
      | 9 =>
        injection (show some _ = some o from ho) with ho
        subst ho
        refine on_ (wanted_none rfl) ?_
        have e105 : F.eval (.tmp 105) = .pointer (some ⟨lb, 0, none⟩) := (hat 8 105 (of_decide_eq_true (by kernel_rfl)) rfl).trans (hp ⟨8, .data⟩ (by simp) rfl : U 8 = .pointer (some ⟨lb, 0, none⟩))
        have t105 := act_tmp e105
        clear hat hoff hp
        exact wp_value' (.pointer (some ⟨lb, 2, none⟩)) W (by unfold execOp; go_simp) ⟨_, rfl, rfl, hGW, hrefl W⟩
      | 10 =>
        injection (show some _ = some o from ho) with ho
        subst ho
        refine on_ (wanted_none rfl) ?_
        have e106 : F.eval (.tmp 106) = .pointer (some ⟨lb, 2, none⟩) := (hat 9 106 (of_decide_eq_true (by kernel_rfl)) rfl).trans (hp ⟨9, .data⟩ (by simp) rfl : U 9 = .pointer (some ⟨lb, 2, none⟩))
        have t106 := act_tmp e106
        have e103 := hat 6 103 (of_decide_eq_true (by kernel_rfl)) rfl
        have v103 := hp ⟨6, .data⟩ (by simp) rfl
        clear hat hoff hp
        obtain ⟨A', c', h103, hi⟩ := v103
        rw [h103] at e103
        have ht := setCells_turn lb 2 [.int .i64 m.whN, .int .i64 m.whE, .slice A' on c'] W
        have hi' := hi.kept (ht.kept HL.out)
        have hnew : ∀ l0 : LaneC, l1 = { l0 with wN := m.whN, wE := m.whE, holes := m.holes } → LaneIs W S lb l0 → LaneIs (W.setCells lb 2 [.int .i64 m.whN, .int .i64 m.whE, .slice A' on c']) S lb l1 := by
          rintro l0 e0 ⟨oA0, on0, oc0, kl, ki⟩
          rw [e0]
          refine ⟨A', on, c', ?_, hi'⟩
          rw [putCells_eq]
          exact ((kl.set_ 2 _).set_ 3 _).set_ 4 _
        have hl : LaneIs (W.setCells lb 2 [.int .i64 m.whN, .int .i64 m.whE, .slice A' on c']) S lb l1 := by
          rcases hGW.1.lane with h | h
          · exact hnew l (by rw [HE.out]) h
          · exact hnew l1 (by rw [HE.out]) h
        have hth : W.there lb 2 3 := by
          rcases hGW.1.lane with ⟨oA0, on0, oc0, kl, ki⟩ | ⟨oA0, on0, oc0, kl, ki⟩ <;> exact kl.there_ 2 3 (by show 5 ≤ 8; omega)
        refine wp_store_mid 32 (.tmp 106) (.tmp 103) rfl lb 2 #[.int .i64 m.whN, .int .i64 m.whE, .slice A' on c'] e106 e103 hth Try.sizeReach reachC_one ?_
        exact ⟨_, rfl, hl, ⟨hGW.1.turned HL.out ht hl, ht.blk hGW.2.1 (by rintro rfl; exact HL.out hGW.1.bxS), hGW.2.2.kept (ht.kept HL.out)⟩, ht, fun _ => hl⟩
      | i + 11 => exact absurd ho (by simp)
  case hend =>
    intro U W hGW hV
    have hl1 : LaneIs W S lb l1 := hV 10 (of_decide_eq_true (by kernel_rfl))
    have hk := hGW.1.one hl1
    rw [HE.out] at hk
    clear hV hGW hl1
    simp [putU, dstAt, Act.put]
    exact HQ.out _ _ ⟨rfl, rfl, rfl, rfl, rfl, trivial⟩ hk

theorem OpsV.epochs {w : World} {S : Nat → Prop} : ∀ {ds : List Opd} {cs : List OpC}, OpsV w S ds cs → ds.map (·.epoch) = cs.map (·.epoch)
  | [], [], _ => rfl
  | o :: ds, c :: cs, h => by
    obtain ⟨A, n, cap, e, _⟩ := h.1
    subst e
    simp only [List.map_cons, OpsV.epochs h.2, OpC.at_]
  | [], _ :: _, h => h.elim
  | _ :: _, [], h => h.elim
set_option maxHeartbeats 1000000 in
/-- the epochs of operations, and where they lie -/
theorem epochs_new (A : Option Addr) (n c : Nat) (os : List Opd) (w : World) (h : Reads w w.heap.size 9 A n (opsV os)) (hn : n ≤ 4294967296) :
    Calls Try.prog 56 #[.slice A n c] w fun x w' => ∃ g, x = .returned (.slice (some ⟨g, 0, none⟩) n n) ∧ IntIs w' (From w.heap.size) (some ⟨g, 0, none⟩) n n (os.map (·.epoch)) ∧ Below w.heap.size w w' := by
  have hlen := ops_len h
  have HR := Lib.hid h
  have HL := Lib.hid hlen
  clear h hlen
  have hmk := run_make_row' (P := Try.prog) 27 3 (.int .i64 0) 8 Try.underlying27 Try.infoInt rfl .i64 .i64 n (w := w) (by omega) (by omega)
  go_enter Try.func56, Try.ntmps56
  go_wp2_with fail
  have hbk := Blk.new w 3 (madeCells #[.int .i64 0] n)
  have hb0 : Below w.heap.size w (w.alloc (.cells (madeCells #[.int .i64 0] n) 3)) := (Below.refl _ _).alloc (Nat.le_refl _) _
  obtain ⟨W, hW⟩ : ∃ W, W = w.alloc (.cells (madeCells #[.int .i64 0] n) 3) := ⟨_, rfl⟩
  rw [← hW]
  rw [← hW] at hb0 hbk
  have hsz : (madeCells #[.int .i64 0] n).size = n := by simp [madeCells]
  obtain ⟨c0, hc0⟩ : ∃ c0, c0 = madeCells #[.int .i64 0] n := ⟨_, rfl⟩
  rw [← hc0] at hbk hsz
  have HB0 := Lib.hid hb0
  have HBK := Lib.hid hbk
  clear hW hc0 hmk hb0 hbk
  go_loopw [11] (fun i wr => ∃ (k : Nat) (cu : Array Value), k ≤ n ∧ i = .int .i64 k ∧ cu.size = n ∧ Blk wr w.heap.size 3 cu ∧ (∀ j, j < k → cu[j]? = (intV .i64 (os.map (·.epoch)))[j]?) ∧ Below w.heap.size w wr) (fun i _ => n - (intOf i).toNat)
  case atStart => exact ⟨0, c0, by omega, rfl, hsz, HBK.out, fun j hj => absurd hj (by omega), HB0.out⟩
  case round =>
    obtain ⟨k, cu, hk, rfl, hcs, hbk, hcu, hb⟩ := hrel
    have HCU := Lib.hid hcu
    have HBK := Lib.hid hbk
    have HB := Lib.hid hb
    have HCS := Lib.hid hcs
    clear hcu hbk hb hcs hsz
    rcases Nat.lt_or_ge k n with hk1 | hk1
    · obtain ⟨ad, o, rfl, hab, ho, hop⟩ := op_at (HR.out.below HB.out) hk1
      obtain ⟨k0, k1, k2, k3, k4, k5, k6, k7, k8⟩ := hop
      have d := (HBK.out.alloc (.cells #[.int .i64 o.n, .int .i64 o.epoch, .int .i64 o.kind, .int .i64 o.site, .int .i64 o.client, .int .i64 o.seq, .string o.name, .int .i64 o.size, .slice o.hA o.hn o.hc] 45))
      have d1 := d.cell k
      have f1 := d.frozen k
      rw [Array.getElem?_eq_getElem (by rw [HCS.out]; exact hk1)] at d1
      have D := Lib.hid d
      have HO := Lib.hid ho
      have hlt := HBK.out.lt
      clear d ho
      go_wp2_with fail
      go_roundw
      case rel =>
        refine ⟨k + 1, cu.setIfInBounds k (.int .i64 o.epoch), by omega, by go_num, by rw [Array.size_setIfInBounds]; exact HCS.out, (HBK.out.set_ _ _).alloc _, ?_, (HB.out.setCell (p := ⟨w.heap.size, _, none⟩) (Nat.le_refl _) _).alloc (by have := HB.out.size; simp; omega) _⟩
        intro j hj
        by_cases hjk : j = k
        · subst hjk
          have h2 : j < cu.size := by rw [HCS.out]; exact hk1
          simp [h2, intV, HO.out]
        · rw [Array.getElem?_setIfInBounds_ne (by omega)]
          exact HCU.out j (by omega)
      case measure => simp [intOf]; omega
    · obtain rfl : n = k := by omega
      go_wp2
      go_ret
      refine ⟨w.heap.size, rfl, ⟨⟨by simp [intV, HL.out], fun _ => ⟨_, rfl, Nat.le_refl _, HBK.out.lt, fun j u hu => ?_⟩⟩, Nat.le_refl _, by unfold maxLen; omega⟩, HB.out⟩
      have hj : j < n := by have := (List.getElem?_eq_some_iff.1 hu).1; simp [intV] at this; rw [HL.out] at this; exact this
      have e : (⟨w.heap.size, 0, none⟩ : Addr).add j = ⟨w.heap.size, j, none⟩ := by simp [Addr.add]; try exact fun h => h.symm
      rw [e, HBK.out.cell j, HCU.out j hj]
      exact hu

/-- the epochs of operations, in new memory -/
theorem epochsL_any {A : Option Addr} {n c : Nat} {S : Nat → Prop} (os : List OpC) (w : World) (h : OpsIs w S A n c os) (hn : n ≤ 4294967296) :
    Calls Try.prog 56 #[.slice A n c] w fun x w' => ∃ g, x = .returned (.slice (some ⟨g, 0, none⟩) n n) ∧ IntIs w' (From w.heap.size) (some ⟨g, 0, none⟩) n n (os.map (·.epoch)) ∧ Below w.heap.size w w' := by
  obtain ⟨ds, h1, h2, h3⟩ := h
  rw [← h2.epochs]
  exact epochs_new A n c ds w h1.reads hn

set_option maxRecDepth 100000 in
set_option maxHeartbeats 4000000 in
theorem take3 {w0 w : World} {S : Nat → Prop} {lb bx : Nat} {l : LaneC} {m : MailC} {A : Option Addr} {n cap : Nat} {os : List OpC} (Q : Exit → Act → World → Prop) (a : Act) (hL : ¬ S lb) (hU : ∀ b, w0.heap.size ≤ b → S b) (hfr : Fr 109 a [(0, .pointer (some ⟨lb, 0, none⟩)), (2, .slice A n cap), (4, .pointer (some ⟨bx, 0, none⟩))]) (h : Tk w0 w S lb bx l m A n cap os) (hn : n ≤ 4294967296) (hat : I64 m.atN)
    (hQ : ∀ a' w', Fr 109 a' [(0, .pointer (some ⟨lb, 0, none⟩)), (2, .slice A n cap), (4, .pointer (some ⟨bx, 0, none⟩))] → Tk w0 w' S lb bx { l with next := min l.next (max l.mN (Seam.upTo (os.map (·.epoch)) m.atN m.atE : Int)) } m A n cap os → Q .normal a' w') :
    (part [1, 1, 0, 0, 1, 1, 1, 1] (codeOf takeF)).wp Try.prog Q a w := by
  have HT := Lib.hid h
  have HQ := Lib.hid hQ
  have HL := Lib.hid hL
  have HU := Lib.hid hU
  clear h hQ hL hU
  obtain ⟨t, df⟩ := a
  obtain ⟨hd, hs, h0, h2, h4, -⟩ := hfr
  simp only at hd hs h0 h2 h4
  subst hd
  rw [eta109 t hs, h0, h2, h4]
  clear hs h0 h2 h4
  conv => arg 2; whnf
  obtain ⟨l1, hl1⟩ : ∃ l1, l1 = ({ l with next := min l.next (max l.mN (Seam.upTo (os.map (·.epoch)) m.atN m.atE : Int)) } : LaneC) := ⟨_, rfl⟩
  have HE := Lib.hid hl1
  have HI := Lib.hid hat
  clear hl1 hat
  refine wp_region_all (by kernel_rfl) (fun i v W => match i with | 0 => v = .pointer (some ⟨lb, 0, none⟩) | 1 => v = .pointer (some ⟨lb, 0, none⟩) | 2 => v = .pointer (some ⟨lb, 0, none⟩) | 3 => v = .pointer (some ⟨lb, 7, none⟩) | 4 => v = .int .i64 l.next ∨ v = .int .i64 l1.next | 5 => v = .pointer (some ⟨lb, 0, none⟩) | 6 => v = .pointer (some ⟨lb, 0, none⟩) | 7 => v = .pointer (some ⟨lb, 0, none⟩) | 8 => v = .pointer (some ⟨lb, 0, none⟩) | 9 => v = .pointer (some ⟨lb, 0, none⟩) | 10 => v = .int .i64 l.mN | 11 => v = .slice A n cap | 12 => ∃ g, v = .slice (some ⟨g, 0, none⟩) n n ∧ IntIs W S (some ⟨g, 0, none⟩) n n (os.map (·.epoch)) | 13 => v = .pointer (some ⟨bx, 11, none⟩) | 14 => v = .agg #[.int .i64 m.atN, .int .i64 m.atE] | 15 => v = .int .i64 (Seam.upTo (os.map (·.epoch)) m.atN m.atE : Int) | 16 => v = .int .i64 (max l.mN (Seam.upTo (os.map (·.epoch)) m.atN m.atE : Int)) | 17 => v = .int .i64 l1.next | 18 => v = .pointer (some ⟨lb, 0, none⟩) | 19 => v = .pointer (some ⟨lb, 7, none⟩) | 20 => LaneIs W S lb l1 | _ => True) (fun W => Tk2 w0 W S lb bx l l1 m A n cap os) (fun W W' => Turn lb W W' ∧ (LaneIs W S lb l1 → LaneIs W' S lb l1)) (by kernel_rfl) ?hG ?hmono ?hstep ?hend
  case hG => exact HT.out.drew.two
  case hmono =>
    intro i v W W' hx hv
    match i with
    | 12 =>
      obtain ⟨g, rfl, hi⟩ := hv
      exact ⟨g, rfl, hi.kept (hx.1.kept HL.out)⟩
    | 20 =>
      exact hx.2 hv
    | 0 | 1 | 2 | 3 | 4 | 5 | 6 | 7 | 8 | 9 | 10 | 11 | 13 | 14 | 15 | 16 | 17 | 18 | 19 => exact hv
    | i + 21 => exact hv
  case hstep =>
    intro i o F U W ho hGW hat hoff hp
    have hrefl := fun W : World => (⟨Turn.refl _ _, fun h => h⟩ : Turn lb W W ∧ (LaneIs W S lb l1 → LaneIs W S lb l1))
    match i with
      | 0 =>
        injection (show some _ = some o from ho) with ho
        subst ho
        refine on_ (wanted_none rfl) ?_
        have e0 : F.eval (.tmp 0) = .pointer (some ⟨lb, 0, none⟩) := (hoff 0 (of_decide_eq_true (by kernel_rfl))).trans rfl
        exact wp_move' (.tmp 0) rfl ⟨_, rfl, e0, hGW, hrefl W⟩
      | 1 =>
        injection (show some _ = some o from ho) with ho
        subst ho
        refine on_ (wanted_none rfl) ?_
        have e0 : F.eval (.tmp 0) = .pointer (some ⟨lb, 0, none⟩) := (hoff 0 (of_decide_eq_true (by kernel_rfl))).trans rfl
        exact wp_move' (.tmp 0) rfl ⟨_, rfl, e0, hGW, hrefl W⟩
      | 2 =>
        injection (show some _ = some o from ho) with ho
        subst ho
        refine on_ (wanted_none rfl) ?_
        have e20 : F.eval (.tmp 20) = .pointer (some ⟨lb, 0, none⟩) := (hat 1 20 (of_decide_eq_true (by kernel_rfl)) rfl).trans (hp ⟨1, .data⟩ (by simp) rfl : U 1 = .pointer (some ⟨lb, 0, none⟩))
        have t20 := act_tmp e20
        clear hat hoff hp
        exact wp_value' (.pointer (some ⟨lb, 0, none⟩)) W (by unfold execOp; go_simp) ⟨_, rfl, rfl, hGW, hrefl W⟩
      | 3 =>
        injection (show some _ = some o from ho) with ho
        subst ho
        refine on_ (wanted_none rfl) ?_
        have e21 : F.eval (.tmp 21) = .pointer (some ⟨lb, 0, none⟩) := (hat 2 21 (of_decide_eq_true (by kernel_rfl)) rfl).trans (hp ⟨2, .data⟩ (by simp) rfl : U 2 = .pointer (some ⟨lb, 0, none⟩))
        have t21 := act_tmp e21
        clear hat hoff hp
        exact wp_value' (.pointer (some ⟨lb, 7, none⟩)) W (by unfold execOp; go_simp) ⟨_, rfl, rfl, hGW, hrefl W⟩
      | 4 =>
        injection (show some _ = some o from ho) with ho
        subst ho
        refine on_ (wanted_none rfl) ?_
        have e22 : F.eval (.tmp 22) = .pointer (some ⟨lb, 7, none⟩) := (hat 3 22 (of_decide_eq_true (by kernel_rfl)) rfl).trans (hp ⟨3, .data⟩ (by simp) rfl : U 3 = .pointer (some ⟨lb, 7, none⟩))
        have t22 := act_tmp e22
        clear hat hoff hp
        rcases hGW.lane with ⟨oA, on, oc, kl, ki⟩ | ⟨oA, on, oc, kl, ki⟩
        · have c7 := kl.cell 7
          simp at c7
          exact wp_value' (.int .i64 l.next) W (by unfold execOp; go_simp) ⟨_, rfl, .inl rfl, hGW, hrefl W⟩
        · have c7 := kl.cell 7
          simp at c7
          exact wp_value' (.int .i64 l1.next) W (by unfold execOp; go_simp) ⟨_, rfl, .inr rfl, hGW, hrefl W⟩
      | 5 =>
        injection (show some _ = some o from ho) with ho
        subst ho
        refine on_ (wanted_none rfl) ?_
        have e0 : F.eval (.tmp 0) = .pointer (some ⟨lb, 0, none⟩) := (hoff 0 (of_decide_eq_true (by kernel_rfl))).trans rfl
        exact wp_move' (.tmp 0) rfl ⟨_, rfl, e0, hGW, hrefl W⟩
      | 6 =>
        injection (show some _ = some o from ho) with ho
        subst ho
        refine on_ (wanted_none rfl) ?_
        have e24 : F.eval (.tmp 24) = .pointer (some ⟨lb, 0, none⟩) := (hat 5 24 (of_decide_eq_true (by kernel_rfl)) rfl).trans (hp ⟨5, .data⟩ (by simp) rfl : U 5 = .pointer (some ⟨lb, 0, none⟩))
        have t24 := act_tmp e24
        clear hat hoff hp
        exact wp_value' (.pointer (some ⟨lb, 0, none⟩)) W (by unfold execOp; go_simp) ⟨_, rfl, rfl, hGW, hrefl W⟩
      | 7 =>
        injection (show some _ = some o from ho) with ho
        subst ho
        refine on_ (wanted_none rfl) ?_
        have e25 : F.eval (.tmp 25) = .pointer (some ⟨lb, 0, none⟩) := (hat 6 25 (of_decide_eq_true (by kernel_rfl)) rfl).trans (hp ⟨6, .data⟩ (by simp) rfl : U 6 = .pointer (some ⟨lb, 0, none⟩))
        have t25 := act_tmp e25
        clear hat hoff hp
        exact wp_value' (.pointer (some ⟨lb, 0, none⟩)) W (by unfold execOp; go_simp) ⟨_, rfl, rfl, hGW, hrefl W⟩
      | 8 =>
        injection (show some _ = some o from ho) with ho
        subst ho
        refine on_ (wanted_none rfl) ?_
        have e26 : F.eval (.tmp 26) = .pointer (some ⟨lb, 0, none⟩) := (hat 7 26 (of_decide_eq_true (by kernel_rfl)) rfl).trans (hp ⟨7, .data⟩ (by simp) rfl : U 7 = .pointer (some ⟨lb, 0, none⟩))
        have t26 := act_tmp e26
        clear hat hoff hp
        exact wp_value' (.pointer (some ⟨lb, 0, none⟩)) W (by unfold execOp; go_simp) ⟨_, rfl, rfl, hGW, hrefl W⟩
      | 9 =>
        injection (show some _ = some o from ho) with ho
        subst ho
        refine on_ (wanted_none rfl) ?_
        have e27 : F.eval (.tmp 27) = .pointer (some ⟨lb, 0, none⟩) := (hat 8 27 (of_decide_eq_true (by kernel_rfl)) rfl).trans (hp ⟨8, .data⟩ (by simp) rfl : U 8 = .pointer (some ⟨lb, 0, none⟩))
        have t27 := act_tmp e27
        clear hat hoff hp
        exact wp_value' (.pointer (some ⟨lb, 0, none⟩)) W (by unfold execOp; go_simp) ⟨_, rfl, rfl, hGW, hrefl W⟩
      | 10 =>
        injection (show some _ = some o from ho) with ho
        subst ho
        refine on_ (wanted_none rfl) ?_
        have e28 : F.eval (.tmp 28) = .pointer (some ⟨lb, 0, none⟩) := (hat 9 28 (of_decide_eq_true (by kernel_rfl)) rfl).trans (hp ⟨9, .data⟩ (by simp) rfl : U 9 = .pointer (some ⟨lb, 0, none⟩))
        have t28 := act_tmp e28
        clear hat hoff hp
        have c0 : W.cell? ⟨lb, 0, none⟩ = some (.int .i64 l.mN) := by
          rcases hGW.lane with ⟨oA, on, oc, kl, ki⟩ | ⟨oA, on, oc, kl, ki⟩
          · exact kl.cell 0
          · rw [HE.out] at kl; exact kl.cell 0
        exact wp_value' (.int .i64 l.mN) W (by unfold execOp; go_simp) ⟨_, rfl, rfl, hGW, hrefl W⟩
      | 11 =>
        injection (show some _ = some o from ho) with ho
        subst ho
        refine on_ (wanted_none rfl) ?_
        have e2 : F.eval (.tmp 2) = .slice A n cap := (hoff 2 (of_decide_eq_true (by kernel_rfl))).trans rfl
        exact wp_move' (.tmp 2) rfl ⟨_, rfl, e2, hGW, hrefl W⟩
      | 12 =>
        injection (show some _ = some o from ho) with ho
        subst ho
        refine on_ (wanted_none rfl) ?_
        have e30 : F.eval (.tmp 30) = .slice A n cap := (hat 11 30 (of_decide_eq_true (by kernel_rfl)) rfl).trans (hp ⟨11, .data⟩ (by simp) rfl : U 11 = .slice A n cap)
        have t30 := act_tmp e30
        clear hat hoff hp
        refine wp_enter' 56 #[.slice A n cap] (by unfold execOp; go_simp) ?_
        refine (epochsL_any os W hGW.ops hn).mono ?_
        rintro e W' ⟨g, rfl, hi, hb⟩
        exact ⟨_, rfl, _, rfl, ⟨g, rfl, hi.mono fun b _ h => HU.out b (Nat.le_trans hGW.turn.size h)⟩, hGW.below hb, Turn.of (Nat.le_of_lt hGW.lt) hb, fun h => h.below hb⟩
      | 13 =>
        injection (show some _ = some o from ho) with ho
        subst ho
        refine on_ (wanted_none rfl) ?_
        have e4 : F.eval (.tmp 4) = .pointer (some ⟨bx, 0, none⟩) := (hoff 4 (of_decide_eq_true (by kernel_rfl))).trans rfl
        have t4 := act_tmp e4
        clear hat hoff hp
        exact wp_value' (.pointer (some ⟨bx, 11, none⟩)) W (by unfold execOp; go_simp) ⟨_, rfl, rfl, hGW, hrefl W⟩
      | 14 =>
        injection (show some _ = some o from ho) with ho
        subst ho
        refine on_ (wanted_none rfl) ?_
        have e32 : F.eval (.tmp 32) = .pointer (some ⟨bx, 11, none⟩) := (hat 13 32 (of_decide_eq_true (by kernel_rfl)) rfl).trans (hp ⟨13, .data⟩ (by simp) rfl : U 13 = .pointer (some ⟨bx, 11, none⟩))
        have t32 := act_tmp e32
        clear hat hoff hp
        obtain ⟨eA, en, ec, hA, hn', hc, oA, on, oc, pA, pn, pc, kb, ko⟩ := hGW.box
        have d0 := kb.cell 11
        have d1 := kb.cell 12
        simp at d0 d1
        exact wp_value' (.agg #[.int .i64 m.atN, .int .i64 m.atE]) W (by unfold execOp; go_simp) ⟨_, rfl, rfl, hGW, hrefl W⟩
      | 15 =>
        injection (show some _ = some o from ho) with ho
        subst ho
        refine on_ (wanted_none rfl) ?_
        have e31 := hat 12 31 (of_decide_eq_true (by kernel_rfl)) rfl
        have v31 := hp ⟨12, .data⟩ (by simp) rfl
        have e33 : F.eval (.tmp 33) = .agg #[.int .i64 m.atN, .int .i64 m.atE] := (hat 14 33 (of_decide_eq_true (by kernel_rfl)) rfl).trans (hp ⟨14, .data⟩ (by simp) rfl : U 14 = .agg #[.int .i64 m.atN, .int .i64 m.atE])
        have t33 := act_tmp e33
        clear hat hoff hp
        obtain ⟨g, h31, hi⟩ := v31
        rw [h31] at e31
        have t31 := act_tmp e31
        refine wp_enter' 79 #[.slice (some ⟨g, 0, none⟩) n n, .agg #[.int .i64 m.atN, .int .i64 m.atE]] (by unfold execOp; go_simp) ?_
        refine (next_any (some ⟨g, 0, none⟩) n n (os.map (·.epoch)) W hi.1.reads hi.2.2 m.atN m.atE HI.out).mono ?_
        rintro e W' ⟨rfl, hb⟩
        exact ⟨_, rfl, _, rfl, rfl, hGW.below hb, Turn.of (Nat.le_of_lt hGW.lt) hb, fun h => h.below hb⟩
      | 16 =>
        injection (show some _ = some o from ho) with ho
        subst ho
        refine on_ (wanted_none rfl) ?_
        have e29 : F.eval (.tmp 29) = .int .i64 l.mN := (hat 10 29 (of_decide_eq_true (by kernel_rfl)) rfl).trans (hp ⟨10, .data⟩ (by simp) rfl : U 10 = .int .i64 l.mN)
        have t29 := act_tmp e29
        have e34 : F.eval (.tmp 34) = .int .i64 (Seam.upTo (os.map (·.epoch)) m.atN m.atE : Int) := (hat 15 34 (of_decide_eq_true (by kernel_rfl)) rfl).trans (hp ⟨15, .data⟩ (by simp) rfl : U 15 = .int .i64 (Seam.upTo (os.map (·.epoch)) m.atN m.atE : Int))
        have t34 := act_tmp e34
        clear hat hoff hp
        have q : (if (Seam.upTo (os.map (·.epoch)) m.atN m.atE : Int) > l.mN then (Seam.upTo (os.map (·.epoch)) m.atN m.atE : Int) else l.mN) = max l.mN (Seam.upTo (os.map (·.epoch)) m.atN m.atE : Int) := by split <;> omega
        exact wp_value' (.int .i64 (if (Seam.upTo (os.map (·.epoch)) m.atN m.atE : Int) > l.mN then (Seam.upTo (os.map (·.epoch)) m.atN m.atE : Int) else l.mN)) W (by unfold execOp; go_simp) ⟨_, rfl, congrArg (Value.int .i64) q, hGW, hrefl W⟩
      | 17 =>
        injection (show some _ = some o from ho) with ho
        subst ho
        refine on_ (wanted_none rfl) ?_
        have e23 := hat 4 23 (of_decide_eq_true (by kernel_rfl)) rfl
        have v23 := hp ⟨4, .data⟩ (by simp) rfl
        have e35 : F.eval (.tmp 35) = .int .i64 (max l.mN (Seam.upTo (os.map (·.epoch)) m.atN m.atE : Int)) := (hat 16 35 (of_decide_eq_true (by kernel_rfl)) rfl).trans (hp ⟨16, .data⟩ (by simp) rfl : U 16 = .int .i64 (max l.mN (Seam.upTo (os.map (·.epoch)) m.atN m.atE : Int)))
        have t35 := act_tmp e35
        clear hat hoff hp
        obtain ⟨X, hX⟩ : ∃ X, X = max l.mN (Seam.upTo (os.map (·.epoch)) m.atN m.atE : Int) := ⟨_, rfl⟩
        rw [← hX] at t35
        have hE := HE.out
        rw [← hX] at hE
        clear hX
        rcases v23 with h23 | h23
        · rw [h23] at e23
          have t23 := act_tmp e23
          have q : (if X < l.next then X else l.next) = l1.next := by rw [hE]; show _ = min l.next X; split <;> omega
          exact wp_value' (.int .i64 (if X < l.next then X else l.next)) W (by unfold execOp; go_simp) ⟨_, rfl, congrArg (Value.int .i64) q, hGW, hrefl W⟩
        · rw [h23] at e23
          have t23 := act_tmp e23
          have q : (if X < l1.next then X else l1.next) = l1.next := by rw [hE]; show (if X < min l.next X then X else min l.next X) = min l.next X; split <;> omega
          exact wp_value' (.int .i64 (if X < l1.next then X else l1.next)) W (by unfold execOp; go_simp) ⟨_, rfl, congrArg (Value.int .i64) q, hGW, hrefl W⟩
      | 18 =>
        injection (show some _ = some o from ho) with ho
        subst ho
        refine on_ (wanted_none rfl) ?_
        have e19 : F.eval (.tmp 19) = .pointer (some ⟨lb, 0, none⟩) := (hat 0 19 (of_decide_eq_true (by kernel_rfl)) rfl).trans (hp ⟨0, .data⟩ (by simp) rfl : U 0 = .pointer (some ⟨lb, 0, none⟩))
        have t19 := act_tmp e19
        clear hat hoff hp
        exact wp_value' (.pointer (some ⟨lb, 0, none⟩)) W (by unfold execOp; go_simp) ⟨_, rfl, rfl, hGW, hrefl W⟩
      | 19 =>
        injection (show some _ = some o from ho) with ho
        subst ho
        refine on_ (wanted_none rfl) ?_
        have e37 : F.eval (.tmp 37) = .pointer (some ⟨lb, 0, none⟩) := (hat 18 37 (of_decide_eq_true (by kernel_rfl)) rfl).trans (hp ⟨18, .data⟩ (by simp) rfl : U 18 = .pointer (some ⟨lb, 0, none⟩))
        have t37 := act_tmp e37
        clear hat hoff hp
        exact wp_value' (.pointer (some ⟨lb, 7, none⟩)) W (by unfold execOp; go_simp) ⟨_, rfl, rfl, hGW, hrefl W⟩
      | 20 =>
        injection (show some _ = some o from ho) with ho
        subst ho
        refine on_ (wanted_none rfl) ?_
        have e38 : F.eval (.tmp 38) = .pointer (some ⟨lb, 7, none⟩) := (hat 19 38 (of_decide_eq_true (by kernel_rfl)) rfl).trans (hp ⟨19, .data⟩ (by simp) rfl : U 19 = .pointer (some ⟨lb, 7, none⟩))
        have t38 := act_tmp e38
        have e36 : F.eval (.tmp 36) = .int .i64 l1.next := (hat 17 36 (of_decide_eq_true (by kernel_rfl)) rfl).trans (hp ⟨17, .data⟩ (by simp) rfl : U 17 = .int .i64 l1.next)
        have t36 := act_tmp e36
        clear hat hoff hp
        have hnew : ∀ l0 : LaneC, l1 = { l0 with next := l1.next } → LaneIs W S lb l0 → LaneIs (W.setCell ⟨lb, 7, none⟩ (.int .i64 l1.next)) S lb l1 := by
          rintro l0 e0 ⟨oA, on, oc, kl, ki⟩
          have ht := setCell_turn lb 7 (.int .i64 l1.next) W
          rw [e0]
          exact ⟨oA, on, oc, kl.set_ 7 _, ki.kept (ht.kept HL.out)⟩
        have hl : LaneIs (W.setCell ⟨lb, 7, none⟩ (.int .i64 l1.next)) S lb l1 := by
          rcases hGW.lane with h | h
          · exact hnew l (by rw [HE.out]) h
          · exact hnew l1 rfl h
        have hc : ∃ x, W.cell? ⟨lb, 7, none⟩ = some (.int .i64 x) ∧ W.frozen? ⟨lb, 7, none⟩ = false := by
          rcases hGW.lane with ⟨oA, on, oc, kl, ki⟩ | ⟨oA, on, oc, kl, ki⟩ <;> exact ⟨_, kl.cell 7, kl.frozen 7⟩
        obtain ⟨x, c7, f7⟩ := hc
        refine wp_skip' (W.setCell ⟨lb, 7, none⟩ (.int .i64 l1.next)) (by unfold execOp; go_simp) ?_
        exact ⟨_, rfl, hl, hGW.turned HL.out (setCell_turn _ _ _ _) hl, setCell_turn _ _ _ _, fun _ => hl⟩
      | i + 21 => exact absurd ho (by simp)
  case hend =>
    intro U W hGW hV
    have hl1 : LaneIs W S lb l1 := hV 20 (of_decide_eq_true (by kernel_rfl))
    have hk := hGW.one hl1
    rw [HE.out] at hk
    clear hV hGW hl1
    simp [putU, dstAt, Act.put]
    exact HQ.out _ _ ⟨rfl, rfl, rfl, rfl, rfl, trivial⟩ hk

/-- what a lane knows behind good words: the place, how far the chunks are -/
def goodS1 (l : LaneC) (m : MailC) (os : List OpC) : LaneC :=
  if (decide (0 < m.atN) && hasB os m.atN m.atE) = true then { l.further m.atN m.atE with next := max l.next m.atN } else l
def goodS2 (l1 : LaneC) (m : MailC) (os : List OpC) : LaneC :=
  if (hasB os m.whN m.whE && decide (l1.wN ≤ m.whN)) = true then { l1 with wN := m.whN, wE := m.whE, holes := m.holes } else l1
def goodS (l : LaneC) (m : MailC) (os : List OpC) : LaneC := goodS2 (goodS1 l m os) m os
/-- what a lane knows behind a mail that may be -/
def rightS (l : LaneC) (m : MailC) (os : List OpC) : LaneC :=
  if m.epoch = l.epoch then (if m.good then goodS l m os else { l with next := min l.next (max l.mN (Seam.upTo (os.map (·.epoch)) m.atN m.atE : Int)) }) else l
/-- what a lane knows behind a mail -/
def takeS (l : LaneC) (m : MailC) (os : List OpC) : LaneC := if m.kind = 10 ∧ m.right10 = true then rightS l m os else l
def takeR (m : MailC) : Int := if m.kind = 10 ∧ m.right10 = true then m.epoch else 0
theorem further_next (l : LaneC) (N E : Int) : (l.further N E).next = l.next := by unfold LaneC.further; split <;> rfl

set_option maxRecDepth 100000 in
set_option maxHeartbeats 4000000 in
theorem take_good {w0 w : World} {S : Nat → Prop} {lb bx : Nat} {l : LaneC} {m : MailC} {A : Option Addr} {n cap : Nat} {os : List OpC} (Q : Exit → Act → World → Prop) (a : Act) (hL : ¬ S lb) (hU : ∀ b, w0.heap.size ≤ b → S b) (hfr : Fr 109 a [(0, .pointer (some ⟨lb, 0, none⟩)), (2, .slice A n cap), (4, .pointer (some ⟨bx, 0, none⟩))]) (h : Tk w0 w S lb bx l m A n cap os) (hn : n ≤ 4294967296) (hz : m.holes.length * 8 ≤ 140737488351232)
    (hQ : ∀ a' w', Fr 109 a' [(0, .pointer (some ⟨lb, 0, none⟩)), (2, .slice A n cap), (4, .pointer (some ⟨bx, 0, none⟩))] → Tk w0 w' S lb bx (goodS l m os) m A n cap os → Q .normal a' w') :
    (part [1, 1, 0, 0, 1, 1, 1, 0] (codeOf takeF)).wp Try.prog Q a w := by
  have HQ := Lib.hid hQ
  clear hQ
  refine wp_two (x := part [1, 1, 0, 0, 1, 1, 1, 0, 0] (codeOf takeF)) (y := part [1, 1, 0, 0, 1, 1, 1, 0, 1] (codeOf takeF)) (by kernel_rfl) ?_
  -- the second half, at any lane
  have second : ∀ (l1 : LaneC) (a : Act) (w : World), Fr 109 a [(0, .pointer (some ⟨lb, 0, none⟩)), (2, .slice A n cap), (4, .pointer (some ⟨bx, 0, none⟩))] → Tk w0 w S lb bx l1 m A n cap os →
      goodS1 l m os = l1 →
      (part [1, 1, 0, 0, 1, 1, 1, 0, 1] (codeOf takeF)).wp Try.prog Q a w := by
    intro l1 a w hfr h hg
    refine wp_two (x := part [1, 1, 0, 0, 1, 1, 1, 0, 1, 0] (codeOf takeF)) (y := part [1, 1, 0, 0, 1, 1, 1, 0, 1, 1] (codeOf takeF)) (by kernel_rfl) ?_
    refine take9 _ a hL hU hfr h hn fun a' w' hfr' h' => ?_
    show (part [1, 1, 0, 0, 1, 1, 1, 0, 1, 1] (codeOf takeF)).wp Try.prog Q a' w'
    refine wp_if (x := part [1, 1, 0, 0, 1, 1, 1, 0, 1, 1, 0] (codeOf takeF)) (y := part [1, 1, 0, 0, 1, 1, 1, 0, 1, 1, 1] (codeOf takeF)) (o := .tmp 96) (by kernel_rfl) (eval_at hfr'.2.2.2.2.2.1 rfl) (fun ht => ?_) (fun ht => ?_)
    · refine take10 Q a' hL hU ⟨hfr'.1, hfr'.2.1, hfr'.2.2.1, hfr'.2.2.2.1, hfr'.2.2.2.2.1, trivial⟩ h' hz fun a2 w2 hf2 h2 => HQ.out a2 w2 hf2 ?_
      unfold goodS goodS2
      rw [hg, if_pos ht]
      exact h2
    · refine wp_nop (by kernel_rfl) (HQ.out a' w' ⟨hfr'.1, hfr'.2.1, hfr'.2.2.1, hfr'.2.2.2.1, hfr'.2.2.2.2.1, trivial⟩ ?_)
      unfold goodS goodS2
      rw [hg, if_neg (by rw [ht]; exact Bool.false_ne_true)]
      exact h'
  refine wp_two (x := part [1, 1, 0, 0, 1, 1, 1, 0, 0, 0] (codeOf takeF)) (y := part [1, 1, 0, 0, 1, 1, 1, 0, 0, 1] (codeOf takeF)) (by kernel_rfl) ?_
  refine take6 _ a hL hU hfr h hn fun a' w' hfr' h' => ?_
  show (part [1, 1, 0, 0, 1, 1, 1, 0, 0, 1] (codeOf takeF)).wp Try.prog (Exit.then ((part [1, 1, 0, 0, 1, 1, 1, 0, 1] (codeOf takeF)).wp Try.prog Q) Q) a' w'
  refine wp_if (x := part [1, 1, 0, 0, 1, 1, 1, 0, 0, 1, 0] (codeOf takeF)) (y := part [1, 1, 0, 0, 1, 1, 1, 0, 0, 1, 1] (codeOf takeF)) (o := .tmp 60) (by kernel_rfl) (eval_at hfr'.2.2.2.2.2.1 rfl) (fun ht => ?_) (fun ht => ?_)
  · refine wp_two (x := part [1, 1, 0, 0, 1, 1, 1, 0, 0, 1, 0, 0] (codeOf takeF)) (y := part [1, 1, 0, 0, 1, 1, 1, 0, 0, 1, 0, 1] (codeOf takeF)) (by kernel_rfl) ?_
    refine take7 _ a' hL hU ⟨hfr'.1, hfr'.2.1, hfr'.2.2.1, hfr'.2.2.2.1, hfr'.2.2.2.2.1, trivial⟩ h' fun a2 w2 hf2 h2 => ?_
    show (part [1, 1, 0, 0, 1, 1, 1, 0, 0, 1, 0, 1] (codeOf takeF)).wp Try.prog (Exit.then ((part [1, 1, 0, 0, 1, 1, 1, 0, 1] (codeOf takeF)).wp Try.prog Q) Q) a2 w2
    refine take8 _ a2 hL hU hf2 h2 fun a3 w3 hf3 h3 => ?_
    refine second _ a3 w3 hf3 h3 ?_
    unfold goodS1
    rw [if_pos ht, further_next]
  · refine wp_nop (by kernel_rfl) ?_
    refine second l a' w' ⟨hfr'.1, hfr'.2.1, hfr'.2.2.1, hfr'.2.2.2.1, hfr'.2.2.2.2.1, trivial⟩ h' ?_
    unfold goodS1
    rw [if_neg (by rw [ht]; exact Bool.false_ne_true)]
end Go.Proofs.Ytaipgdhdfpemcaa
