/-
  THE WALKS OF THE LANE: the reference's copy of a mail.
-/
import Derived.Test.YtaipgdhdfpemcaaLaOwn
import Derived.Test.YtaipgdhdfpemcaaLaMid
namespace Go.Proofs.Ytaipgdhdfpemcaa
open Go.RowKit

theorem eta23 (t : Array Value) (h : t.size = 23) : t = #[at_ t 0, at_ t 1, at_ t 2, at_ t 3, at_ t 4, at_ t 5, at_ t 6, at_ t 7, at_ t 8, at_ t 9, at_ t 10, at_ t 11, at_ t 12, at_ t 13, at_ t 14, at_ t 15, at_ t 16, at_ t 17, at_ t 18, at_ t 19, at_ t 20, at_ t 21, at_ t 22] := (eta_ t h).trans (by kernel_rfl)

/-- all blocks but two are as they were -/
def Save2 (x y : Nat) (w w' : World) : Prop := w.heap.size ≤ w'.heap.size ∧ ∀ b, b < w.heap.size → b ≠ x → b ≠ y → w'.heap[b]? = w.heap[b]?
section
variable {x y : Nat} {w w' w'' : World}
theorem Save2.refl (w : World) : Save2 x y w w := ⟨Nat.le_refl _, fun _ _ _ _ => rfl⟩
theorem Save2.trans (h : Save2 x y w w') (h' : Save2 x y w' w'') : Save2 x y w w'' := ⟨Nat.le_trans h.1 h'.1, fun b h1 h2 h3 => (h'.2 b (Nat.lt_of_lt_of_le h1 h.1) h2 h3).trans (h.2 b h1 h2 h3)⟩
theorem Save2.set_ (h : Save2 x y w w') (p : Addr) (hp : p.block = x ∨ p.block = y) (u : Value) : Save2 x y w (w'.setCell p u) := ⟨by rw [setCell_size]; exact h.1, fun b h1 h2 h3 => (Below.heap_setCell w' p u b (by rcases hp with e | e <;> rw [e] <;> assumption)).trans (h.2 b h1 h2 h3)⟩
theorem Save2.alloc (h : Save2 x y w w') (o : Obj) : Save2 x y w (w'.alloc o) := ⟨by have := h.1; simp; omega, fun b h1 h2 h3 => (Below.heap_alloc w' o b (Nat.lt_of_lt_of_le h1 h.1)).trans (h.2 b h1 h2 h3)⟩
theorem Save2.grown {row : Option Nat} (h : Save2 x y w w') (hg : w'.grownBy w'' row) (hr : ∀ k, row = some k → w.heap.size ≤ k ∨ k = x ∨ k = y) : Save2 x y w w'' := ⟨Nat.le_trans h.1 hg.size, fun b h1 h2 h3 => (hg.block b (Nat.lt_of_lt_of_le h1 h.1) (fun e => by rcases hr b e.symm with h | h | h <;> omega)).trans (h.2 b h1 h2 h3)⟩
theorem Save2.below {B : Nat} (h : Save2 x y w w') (hb : Below B w' w'') (hB : w.heap.size ≤ B) : Save2 x y w w'' := ⟨Nat.le_trans h.1 hb.size, fun b h1 h2 h3 => (hb.block b (Nat.lt_of_lt_of_le h1 hB)).trans (h.2 b h1 h2 h3)⟩
theorem Save2.cells (h : Save2 x y w w') (b o : Nat) (hp : b = x ∨ b = y) (vs : List Value) : Save2 x y w (w'.setCells b o vs) := by
  refine ⟨by rw [size_setCells]; exact h.1, fun k h1 h2 h3 => ?_⟩
  exact (save_setCells w' b o vs k (Nat.lt_of_lt_of_le h1 h.1) (by rcases hp with e | e <;> rw [e] <;> assumption)).trans (h.2 k h1 h2 h3)
theorem Save2.reads (h : Save2 x y w w') {size n : Nat} {ad : Addr} {xs : List Value} (hr : Reads w w.heap.size size (some ad) n xs) (hx : ad.block ≠ x) (hy : ad.block ≠ y) : Reads w' w'.heap.size size (some ad) n xs := by
  refine ⟨hr.1, fun hn => ?_⟩
  obtain ⟨ad, e, hlt, hc⟩ := hr.2 hn
  injection e with e
  subst e
  refine ⟨_, rfl, Nat.lt_of_lt_of_le hlt h.1, fun j u hu => ?_⟩
  rw [World.cell?_of_block (w := w) (w' := w') (by rw [block_of_add]; exact h.2 _ hlt hx hy)]
  exact hc j u hu
end

theorem Kept.cells {S : Nat → Prop} {w w' : World} (h : Kept S w w') (b o : Nat) (hp : ¬ S b ∨ w.heap.size ≤ b) (vs : List Value) : Kept S w (w'.setCells b o vs) := by
  refine ⟨by rw [size_setCells]; exact h.1, fun k h1 h2 => ?_⟩
  exact (save_setCells w' b o vs k (Nat.lt_of_lt_of_le h2 h.1) (by rintro rfl; rcases hp with h | h; exact h h1; omega)).trans (h.2 k h1 h2)

@[reducible] noncomputable def own15F : Func := Try.f17
theorem mailC_one {kind term index prev commit : Int} {good : Bool} {eA : Option Addr} {en ec : Nat} {data : ByteArray} {hA : Option Addr} {hn hc : Nat} {epoch site atN atE whN whE : Int} {oA : Option Addr} {on oc : Nat} {pA : Option Addr} {pn pc : Nat} :
    (mailC kind term index prev commit good eA en ec data hA hn hc epoch site atN atE whN whE oA on oc pA pn pc).all (·.oneCell') = true := all_oneCell_toArray (by
  intro v hv
  simp only [List.mem_cons, List.not_mem_nil, or_false] at hv
  rcases hv with rfl | rfl | rfl | rfl | rfl | rfl | rfl | rfl | rfl | rfl | rfl | rfl | rfl | rfl | rfl | rfl | rfl <;> rfl)
theorem Try.sizeMail : (Try.prog.info? 30).map (·.size) = some 17 := by kernel_rfl

set_option maxRecDepth 100000 in
set_option maxHeartbeats 4000000 in
theorem own15_last (R : Ending → World → Prop) (a : Act) (w : World) (bx rb : Nat) {kind term index prev commit : Int} {good : Bool} {eA : Option Addr} {en ec : Nat} {data : ByteArray} {hA : Option Addr} {hn hc : Nat} {epoch site atN atE whN whE : Int} {oA : Option Addr} {on oc : Nat} {pA : Option Addr} {pn pc : Nat} {c0 : Array Value}
    (hfr : Fr 23 a [(1, .pointer (some ⟨bx, 0, none⟩)), (2, .pointer (some ⟨rb, 0, none⟩))])
    (hbx : Blk w bx 30 (mailC kind term index prev commit good eA en ec data hA hn hc epoch site atN atE whN whE oA on oc pA pn pc)) (hrb : Blk w rb 30 c0) (hc0 : c0.size = 17)
    (hR : ∀ w', w' = w.setCells rb 0 (mailC kind term index prev commit good eA en ec data hA hn hc epoch site atN atE whN whE oA on oc pA pn pc).toList → R (.returned (.agg (mailC kind term index prev commit good eA en ec data hA hn hc epoch site atN atE whN whE oA on oc pA pn pc))) w') :
    (part [1, 1, 1, 1, 1] (codeOf own15F)).wp Try.prog (bodyPost Try.prog own15F R) a w := by
  have hb2 := hrb.setCells_ (mailC kind term index prev commit good eA en ec data hA hn hc epoch site atN atE whN whE oA on oc pA pn pc).toList (by rw [hc0]; rfl)
  obtain ⟨t, df⟩ := a
  obtain ⟨hd, hs, h1, h2, -⟩ := hfr
  simp only at hd hs h1 h2
  subst hd
  rw [eta23 t hs, h1, h2]
  clear hs h1 h2
  refine wp_part (x := part [1, 1, 1, 1, 1, 0] (codeOf own15F)) (y := part [1, 1, 1, 1, 1, 1] (codeOf own15F)) (by kernel_rfl) ?_
  intro K hK
  conv => arg 2; whnf
  refine wp_region_lit ?_
  refine wpList_load_mid rfl 30 (.tmp 1) rfl bx 0 rfl _ _ hbx.range Try.underlying30 rfl Try.sizeMail ?_
  refine wpList_store_mid rfl 30 (.tmp 2) (.tmp 22) rfl rb 0 (mailC kind term index prev commit good eA en ec data hA hn hc epoch site atN atE whN whE oA on oc pA pn pc) rfl rfl (hrb.there_ 0 _ (by rw [hc0]; exact Nat.le_refl _)) Try.sizeMail mailC_one ?_
  refine wpList_nil ?_
  refine hK _ _ ?_
  conv => arg 2; whnf
  refine wp_ret ?_
  refine bodyPost_ret (results_cell rfl rfl hb2.range Try.underlying30 rfl Try.sizeMail) rfl ?_
  exact hR _ rfl

/-- the mail that says nothing -/
@[reducible] def noMailC : Array Value := mailC 0 0 0 0 0 false none 0 0 ⟨#[]⟩ none 0 0 0 0 0 0 0 0 none 0 0 none 0 0

set_option maxRecDepth 100000 in
set_option maxHeartbeats 4000000 in
/-- the reference's copy of a mail -/
theorem own15_any (cells : Array Value) (m : MailC) (w : World) {S : Nat → Prop} (h : MailIs w S cells m) (hok : m.Ok) (hsm : m.ops.length ≤ 4294967296) :
    Calls Try.prog 17 #[.agg cells] w fun e w' => ∃ cells', e = .returned (.agg cells') ∧ MailIs w' (From w.heap.size) cells' m ∧ Below w.heap.size w w' := by
  obtain ⟨eA, en, ec, hA, hn, hc, oA, on, oc, pA, pn, pc, rfl, h1, h2, h3, h4⟩ := h
  have l1 := h1.len
  have l2 := h2.len
  have l3 := h3.len
  have l4 := h4.len
  have z1 : en * 24 ≤ 140737488351232 := by rw [← l1]; exact hok.ents
  have z2 : hn * 16 ≤ 140737488351232 := by rw [← l2]; exact hok.hs
  have z3 : on * 8 ≤ 140737488351232 := by rw [← l3]; exact hok.holes
  have z4 : pn ≤ 4294967296 := by rw [← l4]; exact hsm
  have hw1 : Below w.heap.size w ((w.alloc (.cells (mailC m.kind m.term m.index m.prev m.commit m.good eA en ec m.data hA hn hc m.epoch m.site m.atN m.atE m.whN m.whE oA on oc pA pn pc) 30)).alloc (.cells noMailC 30)) := ((Below.refl _ _).alloc (Nat.le_refl _) _).alloc (by simp) _
  have hx1 : Blk ((w.alloc (.cells (mailC m.kind m.term m.index m.prev m.commit m.good eA en ec m.data hA hn hc m.epoch m.site m.atN m.atE m.whN m.whE oA on oc pA pn pc) 30)).alloc (.cells noMailC 30)) w.heap.size 30 (mailC m.kind m.term m.index m.prev m.commit m.good eA en ec m.data hA hn hc m.epoch m.site m.atN m.atE m.whN m.whE oA on oc pA pn pc) := (Blk.new w _ _).alloc _
  have hr1 : Blk ((w.alloc (.cells (mailC m.kind m.term m.index m.prev m.commit m.good eA en ec m.data hA hn hc m.epoch m.site m.atN m.atE m.whN m.whE oA on oc pA pn pc) 30)).alloc (.cells noMailC 30)) (w.heap.size + 1) 30 noMailC := by
    have := Blk.new (w.alloc (.cells (mailC m.kind m.term m.index m.prev m.commit m.good eA en ec m.data hA hn hc m.epoch m.site m.atN m.atE m.whN m.whE oA on oc pA pn pc) 30)) 30 noMailC
    simpa using this
  have hem := own_empty ((w.alloc (.cells (mailC m.kind m.term m.index m.prev m.commit m.good eA en ec m.data hA hn hc m.epoch m.site m.atN m.atE m.whN m.whE oA on oc pA pn pc) 30)).alloc (.cells noMailC 30)) 9 1
  have es : ((w.alloc (.cells (mailC m.kind m.term m.index m.prev m.commit m.good eA en ec m.data hA hn hc m.epoch m.site m.atN m.atE m.whN m.whE oA on oc pA pn pc) 30)).alloc (.cells noMailC 30)).heap.size = w.heap.size + 1 + 1 := by simp
  rw [es] at hem
  obtain ⟨j0, hj0, hy0, hy1, hy2⟩ := info_parts Try.infoStr
  have HJ := Lib.hid hj0
  have HY0 := Lib.hid hy0
  have HY1 := Lib.hid hy1
  have HY2 := Lib.hid hy2
  obtain ⟨i0, hi0, hz0, hz1, hz2⟩ := info_parts Try.infoInt
  have HI := Lib.hid hi0
  have HZ0 := Lib.hid hz0
  have HZ1 := Lib.hid hz1
  have HZ2 := Lib.hid hz2
  obtain ⟨e0, he0, hx0, hx01, hx2⟩ := info_parts Try.infoEnt
  have HE := Lib.hid he0
  have HX0 := Lib.hid hx0
  have HX1 := Lib.hid hx01
  have HX2 := Lib.hid hx2
  have HEM := Lib.hid hem
  have HW1 := Lib.hid hw1
  have HB1 := Lib.hid hx1
  have HR1 := Lib.hid hr1
  have R1 := Lib.hid h1
  have R2 := Lib.hid h2
  have R3 := Lib.hid h3
  have R4 := Lib.hid h4
  have HOK := Lib.hid hok
  clear hj0 hy0 hy1 hy2 hi0 hz0 hz1 hz2 he0 hx0 hx01 hx2 hem hw1 hx1 hr1 h1 h2 h3 h4 l1 l2 l3 l4 es hok hsm
  go_enter Try.func17, Try.ntmps17
  conv => arg 2; arg 2; arg 2; arg 2; arg 2; arg 2; change part [1, 1, 1, 1, 1] (codeOf own15F)
  go_wp2_with (at_builtin; refine wpList_append_any _ rfl (.tmp 3) (.tmp 5) _ rfl (w.heap.size + 1 + 1) 9 j0 _ 1 16 Try.underlying24 HJ.out HY0.out HY1.out HY2.out rfl (by omega) (.slice (some ⟨w.heap.size + 1 + 1, 0, none⟩) 0 0) 0 [] rfl HEM.out w.heap.size hA hn hc (strV m.hs) rfl ((R2.out.1.reads.below HW1.out).alloc (by simp; omega) _) (strV_one m.hs) ?c1 ?c2 ?c3 ?_)
  case c1 => unfold maxLen; omega
  case c2 => omega
  case c3 => simp
  intro v1 w2 hown1 hg1 hat1
  try simp only [Nat.zero_add, List.nil_append] at hown1
  obtain ⟨g1, c1, cur1, rfl, hc1, hcm1, hge1, _, hrd1⟩ := own_blk hown1 hat1
  have hs1 : w.heap.size + 3 ≤ w2.heap.size := by have := hg1.size; simpa using this
  have hx2 := (HB1.out.alloc (.cells #[] 9)).grown hg1 (by simp [Value.ownBlock]; omega)
  have hr2 := (HR1.out.alloc (.cells #[] 9)).grown hg1 (by simp [Value.ownBlock])
  have hw2 : Below w.heap.size w w2 := (HW1.out.alloc (by simp; omega) _).grown hg1 (by simp; omega) (by intro k hk; simp [Value.ownBlock] at hk; omega)
  have d8 := hx2.cell 8
  have f8 := hx2.frozen 8
  simp at d8
  have hx2' : Blk (w2.setCell ⟨w.heap.size, 8, none⟩ (.slice (some ⟨g1, 0, none⟩) hn c1)) w.heap.size 30 (mailC m.kind m.term m.index m.prev m.commit m.good eA en ec m.data (some ⟨g1, 0, none⟩) hn c1 m.epoch m.site m.atN m.atE m.whN m.whE oA on oc pA pn pc) := hx2.set_ 8 _
  have hr2' : Blk (w2.setCell ⟨w.heap.size, 8, none⟩ (.slice (some ⟨g1, 0, none⟩) hn c1)) (w.heap.size + 1) 30 noMailC := hr2.far (by simp) _
  have hw2' : Below w.heap.size w (w2.setCell ⟨w.heap.size, 8, none⟩ (.slice (some ⟨g1, 0, none⟩) hn c1)) := hw2.setCell (p := ⟨w.heap.size, 8, none⟩) (Nat.le_refl _) _
  have hs2 : Save2 w.heap.size (w.heap.size + 1) w2 (w2.setCell ⟨w.heap.size, 8, none⟩ (.slice (some ⟨g1, 0, none⟩) hn c1)) := (Save2.refl _).set_ _ (.inl rfl) _
  have hrd2 := hs2.reads hrd1 (by simp; omega) (by simp; omega)
  have hem2 := own_empty (w2.setCell ⟨w.heap.size, 8, none⟩ (.slice (some ⟨g1, 0, none⟩) hn c1)) 3 1
  rw [setCell_size] at hem2
  have HEM2 := Lib.hid hem2
  have k15 : ((w2.setCell ⟨w.heap.size, 8, none⟩ (.slice (some ⟨g1, 0, none⟩) hn c1)).alloc (.cells #[] 3)).cell? ⟨w.heap.size, 15, none⟩ = some (.slice oA on oc) := (hx2'.alloc _).cell 15
  have HX2 := Lib.hid hx2'
  have HR2 := Lib.hid hr2'
  have HW2 := Lib.hid hw2'
  have HRD2 := Lib.hid hrd2
  have HC1 := Lib.hid hcm1
  clear hown1 hg1 hat1 hrd1 hx2 hr2 hw2 hx2' hr2' hw2' hs2 hrd2 hem2 hcm1
  go_wp2_with (at_builtin; refine wpList_append_any _ rfl (.tmp 8) (.tmp 10) _ rfl w2.heap.size 3 i0 _ 1 8 Try.underlying27 HI.out HZ0.out HZ1.out HZ2.out rfl (by omega) (.slice (some ⟨w2.heap.size, 0, none⟩) 0 0) 0 [] rfl HEM2.out w.heap.size oA on oc (intV .i64 m.holes) rfl ((R3.out.1.reads.below HW2.out).alloc (by simp; omega) _) (intV_one m.holes) ?c1 ?c2 ?c3 ?_)
  case c1 => unfold maxLen; omega
  case c2 => omega
  case c3 => simp
  intro v2 w3 hown2 hg2 hat2
  try simp only [Nat.zero_add, List.nil_append] at hown2
  obtain ⟨g2, c2, cur2, rfl, hc2, hcm2, hge2, _, hrd3⟩ := own_blk hown2 hat2
  have hs3 : w2.heap.size + 1 ≤ w3.heap.size := by have := hg2.size; simpa using this
  have hx3 := (HX2.out.alloc (.cells #[] 3)).grown hg2 (by simp [Value.ownBlock]; omega)
  have hr3 := (HR2.out.alloc (.cells #[] 3)).grown hg2 (by simp [Value.ownBlock]; omega)
  have hw3 : Below w.heap.size w w3 := (HW2.out.alloc (by simp; omega) _).grown hg2 (by simp; omega) (by intro k hk; simp [Value.ownBlock] at hk; omega)
  have hq3 : Save2 w.heap.size (w.heap.size + 1) (w2.setCell ⟨w.heap.size, 8, none⟩ (.slice (some ⟨g1, 0, none⟩) hn c1)) w3 := ((Save2.refl _).alloc _).grown hg2 (by intro k hk; simp [Value.ownBlock] at hk; simp; omega)
  have hrd2 := hq3.reads HRD2.out (by simp; omega) (by simp; omega)
  have d15 := hx3.cell 15
  have f15 := hx3.frozen 15
  simp at d15
  have hx3' : Blk (w3.setCell ⟨w.heap.size, 15, none⟩ (.slice (some ⟨g2, 0, none⟩) on c2)) w.heap.size 30 (mailC m.kind m.term m.index m.prev m.commit m.good eA en ec m.data (some ⟨g1, 0, none⟩) hn c1 m.epoch m.site m.atN m.atE m.whN m.whE (some ⟨g2, 0, none⟩) on c2 pA pn pc) := hx3.set_ 15 _
  have hr3' : Blk (w3.setCell ⟨w.heap.size, 15, none⟩ (.slice (some ⟨g2, 0, none⟩) on c2)) (w.heap.size + 1) 30 noMailC := hr3.far (by simp) _
  have hw3' : Below w.heap.size w (w3.setCell ⟨w.heap.size, 15, none⟩ (.slice (some ⟨g2, 0, none⟩) on c2)) := hw3.setCell (p := ⟨w.heap.size, 15, none⟩) (Nat.le_refl _) _
  have hs3' : Save2 w.heap.size (w.heap.size + 1) w3 (w3.setCell ⟨w.heap.size, 15, none⟩ (.slice (some ⟨g2, 0, none⟩) on c2)) := (Save2.refl _).set_ _ (.inl rfl) _
  have hrd2' := hs3'.reads hrd2 (by simp; omega) (by simp; omega)
  have hrd3' := hs3'.reads hrd3 (by simp; omega) (by simp; omega)
  have hem3 := own_empty (w3.setCell ⟨w.heap.size, 15, none⟩ (.slice (some ⟨g2, 0, none⟩) on c2)) 150 2
  rw [setCell_size] at hem3
  have HEM3 := Lib.hid hem3
  have k6 : ((w3.setCell ⟨w.heap.size, 15, none⟩ (.slice (some ⟨g2, 0, none⟩) on c2)).alloc (.cells #[] 150)).cell? ⟨w.heap.size, 6, none⟩ = some (.slice eA en ec) := (hx3'.alloc _).cell 6
  have HX3 := Lib.hid hx3'
  have HR3 := Lib.hid hr3'
  have HW3 := Lib.hid hw3'
  have HRD2' := Lib.hid hrd2'
  have HRD3 := Lib.hid hrd3'
  have HC2 := Lib.hid hcm2
  clear hown2 hg2 hat2 hrd3 hx3 hr3 hw3 hx3' hr3' hw3' hs3' hq3 hrd2 hrd2' hrd3' hem3 hcm2 HRD2 HX2 HR2 HW2 d8 f8 k15
  go_wp2_with (at_builtin; refine wpList_append_any _ rfl (.tmp 13) (.tmp 15) _ rfl w3.heap.size 150 e0 _ 2 24 Try.underlying23 HE.out HX0.out HX1.out HX2.out rfl (by omega) (.slice (some ⟨w3.heap.size, 0, none⟩) 0 0) 0 [] rfl HEM3.out w.heap.size eA en ec (entV m.ents) rfl ((R1.out.1.reads.below HW3.out).alloc (by simp; omega) _) (entV_one m.ents) ?c1 ?c2 ?c3 ?_)
  case c1 => unfold maxLen; omega
  case c2 => omega
  case c3 => simp
  intro v3 w4 hown3 hg3 hat3
  try simp only [Nat.zero_add, List.nil_append] at hown3
  obtain ⟨g3, c3, cur3, rfl, hc3, hcm3, hge3, _, hrd4⟩ := own_blk hown3 hat3
  have hs4 : w3.heap.size + 1 ≤ w4.heap.size := by have := hg3.size; simpa using this
  have hx4 := (HX3.out.alloc (.cells #[] 150)).grown hg3 (by simp [Value.ownBlock]; omega)
  have hr4 := (HR3.out.alloc (.cells #[] 150)).grown hg3 (by simp [Value.ownBlock]; omega)
  have hw4 : Below w.heap.size w w4 := (HW3.out.alloc (by simp; omega) _).grown hg3 (by simp; omega) (by intro k hk; simp [Value.ownBlock] at hk; omega)
  have hq4 : Save2 w.heap.size (w.heap.size + 1) (w3.setCell ⟨w.heap.size, 15, none⟩ (.slice (some ⟨g2, 0, none⟩) on c2)) w4 := ((Save2.refl _).alloc _).grown hg3 (by intro k hk; simp [Value.ownBlock] at hk; simp; omega)
  have hrd2 := hq4.reads HRD2'.out (by simp; omega) (by simp; omega)
  have hrd3 := hq4.reads HRD3.out (by simp; omega) (by simp; omega)
  have d6 := hx4.cell 6
  have f6 := hx4.frozen 6
  have d16 := hx4.cell 16
  simp at d6 d16
  have hx4' : Blk (w4.setCell ⟨w.heap.size, 6, none⟩ (.slice (some ⟨g3, 0, none⟩) en c3)) w.heap.size 30 (mailC m.kind m.term m.index m.prev m.commit m.good (some ⟨g3, 0, none⟩) en c3 m.data (some ⟨g1, 0, none⟩) hn c1 m.epoch m.site m.atN m.atE m.whN m.whE (some ⟨g2, 0, none⟩) on c2 pA pn pc) := hx4.set_ 6 _
  have hr4' : Blk (w4.setCell ⟨w.heap.size, 6, none⟩ (.slice (some ⟨g3, 0, none⟩) en c3)) (w.heap.size + 1) 30 noMailC := hr4.far (by simp) _
  have hw4' : Below w.heap.size w (w4.setCell ⟨w.heap.size, 6, none⟩ (.slice (some ⟨g3, 0, none⟩) en c3)) := hw4.setCell (p := ⟨w.heap.size, 6, none⟩) (Nat.le_refl _) _
  have hs4' : Save2 w.heap.size (w.heap.size + 1) w4 (w4.setCell ⟨w.heap.size, 6, none⟩ (.slice (some ⟨g3, 0, none⟩) en c3)) := (Save2.refl _).set_ _ (.inl rfl) _
  have hrd2' := hs4'.reads hrd2 (by simp; omega) (by simp; omega)
  have hrd3' := hs4'.reads hrd3 (by simp; omega) (by simp; omega)
  have hrd4' := hs4'.reads hrd4 (by simp; omega) (by simp; omega)
  have hoo := ownOps_any pA pn pc m.ops (w4.setCell ⟨w.heap.size, 6, none⟩ (.slice (some ⟨g3, 0, none⟩) en c3)) (R4.out.below hw4') z4 HOK.out.op
  have HOO := Lib.hid hoo
  have HX4 := Lib.hid hx4'
  have HR4 := Lib.hid hr4'
  have HW4 := Lib.hid hw4'
  have HS2 := Lib.hid hrd2'
  have HS3 := Lib.hid hrd3'
  have HS4 := Lib.hid hrd4'
  have HC3 := Lib.hid hcm3
  clear hown3 hg3 hat3 hrd4 hx4 hr4 hw4 hx4' hr4' hw4' hs4' hq4 hrd2 hrd3 hrd2' hrd3' hrd4' hoo hcm3 HRD2' HRD3 HX3 HR3 HW3 d15 f15 k6
  go_wp2_with fail
  refine HOO.out.mono ?_
  rintro e w5 ⟨A5, c5, rfl, hops5, hb5⟩
  rw [setCell_size] at hb5
  have hz5 := hb5.size
  rw [setCell_size] at hz5
  have hlt : w.heap.size + 1 < w4.heap.size := by omega
  have hx5 := HX4.out.below hb5 (by omega)
  have hr5 := HR4.out.below hb5 (by omega)
  have d16 := hx5.cell 16
  have f16 := hx5.frozen 16
  simp at d16
  have hx5' : Blk (w5.setCell ⟨w.heap.size, 16, none⟩ (.slice A5 pn c5)) w.heap.size 30 (mailC m.kind m.term m.index m.prev m.commit m.good (some ⟨g3, 0, none⟩) en c3 m.data (some ⟨g1, 0, none⟩) hn c1 m.epoch m.site m.atN m.atE m.whN m.whE (some ⟨g2, 0, none⟩) on c2 A5 pn c5) := hx5.set_ 16 _
  have hr5' : Blk (w5.setCell ⟨w.heap.size, 16, none⟩ (.slice A5 pn c5)) (w.heap.size + 1) 30 noMailC := hr5.far (by simp) _
  have HX5 := Lib.hid hx5'
  have HR5 := Lib.hid hr5'
  have HB5 := Lib.hid hb5
  have HO5 := Lib.hid hops5
  clear hx5 hr5 hx5' hr5' hb5 hops5
  go_wp2_with fail
  refine own15_last _ _ _ w.heap.size (w.heap.size + 1) ⟨rfl, rfl, rfl, rfl, trivial⟩ HX5.out HR5.out rfl ?_
  rintro w6 rfl
  refine ⟨_, rfl, ?_, ?_⟩
  · have hl : w.heap.size + 1 < w4.heap.size := hlt
    have hk : Kept (From (w.heap.size + 2)) (w4.setCell ⟨w.heap.size, 6, none⟩ (.slice (some ⟨g3, 0, none⟩) en c3)) ((w5.setCell ⟨w.heap.size, 16, none⟩ (.slice A5 pn c5)).setCells (w.heap.size + 1) 0 (mailC m.kind m.term m.index m.prev m.commit m.good (some ⟨g3, 0, none⟩) en c3 m.data (some ⟨g1, 0, none⟩) hn c1 m.epoch m.site m.atN m.atE m.whN m.whE (some ⟨g2, 0, none⟩) on c2 A5 pn c5).toList) :=
      ((Kept.of _ (by rw [setCell_size]; exact HB5.out)).set_ ⟨w.heap.size, 16, none⟩ (.inl (by show ¬ _ ≤ w.heap.size; omega)) _).cells (w.heap.size + 1) 0 (.inl (by show ¬ _ ≤ _; omega)) _
    have hk2 : Kept (From w4.heap.size) w5 ((w5.setCell ⟨w.heap.size, 16, none⟩ (.slice A5 pn c5)).setCells (w.heap.size + 1) 0 (mailC m.kind m.term m.index m.prev m.commit m.good (some ⟨g3, 0, none⟩) en c3 m.data (some ⟨g1, 0, none⟩) hn c1 m.epoch m.site m.atN m.atE m.whN m.whE (some ⟨g2, 0, none⟩) on c2 A5 pn c5).toList) :=
      ((Kept.refl _ _).set_ ⟨w.heap.size, 16, none⟩ (.inl (by show ¬ _ ≤ w.heap.size; omega)) _).cells (w.heap.size + 1) 0 (.inl (by show ¬ _ ≤ _; omega)) _
    have ho := HO5.out
    rw [setCell_size] at ho
    have r1 : Rs _ (From (w.heap.size + 2)) 1 (some ⟨g1, 0, none⟩) hn (strV m.hs) := Rs.of HS2.out fun _ ad e => by injection e with e; subst e; show _ ≤ g1; omega
    have r2 : Rs _ (From (w.heap.size + 2)) 1 (some ⟨g2, 0, none⟩) on (intV .i64 m.holes) := Rs.of HS3.out fun _ ad e => by injection e with e; subst e; show _ ≤ g2; omega
    have r3 : Rs _ (From (w.heap.size + 2)) 2 (some ⟨g3, 0, none⟩) en (entV m.ents) := Rs.of HS4.out fun _ ad e => by injection e with e; subst e; show _ ≤ g3; omega
    have up : ∀ b, w.heap.size + 2 ≤ b → w.heap.size ≤ b := fun b h => by omega
    have up2 : ∀ b, w4.heap.size ≤ b → w.heap.size ≤ b := fun b h => by omega
    exact ⟨_, en, c3, _, hn, c1, _, on, c2, A5, pn, c5, rfl, ⟨(r3.keep hk.1 hk.2).mono fun b _ h => up b h, hc3, HC3.out⟩, ⟨(r1.keep hk.1 hk.2).mono fun b _ h => up b h, hc1, HC1.out⟩, ⟨(r2.keep hk.1 hk.2).mono fun b _ h => up b h, hc2, HC2.out⟩, (ho.kept hk2).mono fun b _ h => up2 b h⟩
  · exact below_setCells (by omega) ((HW4.out.trans (HB5.out.mono (by omega))).setCell (p := ⟨w.heap.size, 16, none⟩) (Nat.le_refl _) _) _ _
end Go.Proofs.Ytaipgdhdfpemcaa
