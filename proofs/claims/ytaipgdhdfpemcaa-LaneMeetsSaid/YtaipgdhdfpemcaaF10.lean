/- THE WALKS OF THE LANE, part 10. -/
import Derived.Test.YtaipgdhdfpemcaaF8
import Derived.Test.YtaipgdhdfpemcaaF9
namespace Go.Proofs.Ytaipgdhdfpemcaa
set_option linter.all false
open Go.RowKit Go.Proofs.Try
set_option maxRecDepth 100000
set_option maxHeartbeats 4000000
theorem eta23 (t:Array Value) (h:t.size=23):t=#[at_ t 0,at_ t 1,at_ t 2,at_ t 3,at_ t 4,at_ t 5,at_ t 6,at_ t 7,at_ t 8,at_ t 9,at_ t 10,at_ t 11,at_ t 12,at_ t 13,at_ t 14,at_ t 15,at_ t 16,at_ t 17,at_ t 18,at_ t 19,at_ t 20,at_ t 21,at_ t 22]:=(eta_ t h).trans kr
def Save2 (x y:Nat) (w w':World):Prop:=w.heap.size<=w'/\∀ b,b<w.heap.size->b≠x->b≠y->w'.heap[b]? = w.heap[b]?
section
variable {x y:Nat} {w w' w'':World}
section
variable {ad:Addr} {xs:List Value} {B n size:Nat} {row:Option Nat}
theorem Save2.refl (w:World):Save2 x y w w:=⟨Nat.le_refl _,fun _ _ _ _=>rfl⟩
section
variable (h:Save2 x y w w')
include h
theorem Save2.trans (h':Save2 x y w' w''):Save2 x y w w'':=⟨Nat.le_trans h.1 h'.1,fun b h1 h2 h3=>(h'.2 b (Nat.lt_of_lt_of_le h1 h.1) h2 h3).trans (h.2 b h1 h2 h3)⟩
theorem Save2.set_ (p:Addr) (hp:p.block=x\/p.block=y) (u:Value):Save2 x y w (w'.setCell p u):=⟨by rw [setCell_size];exact h.1,fun b h1 h2 h3=>(Below.heap_setCell w' p u b (by rcases hp with e|e<;>rw [e]<;>assumption)).trans (h.2 b h1 h2 h3)⟩
theorem Save2.alloc (o:Obj):Save2 x y w (w'.alloc o):=⟨by have:=h.1;simp;omega,fun b h1 h2 h3=>(Below.heap_alloc w' o b (Nat.lt_of_lt_of_le h1 h.1)).trans (h.2 b h1 h2 h3)⟩
theorem Save2.grown (hg:w'.grownBy w'' row) (hr:∀ k,row=some k->w.heap.size<=k\/k=x\/k=y):Save2 x y w w'':=⟨Nat.le_trans h.1 hg.size,fun b h1 h2 h3=>(hg.block b (Nat.lt_of_lt_of_le h1 h.1) (fun e=>by rcases hr b e.symm with h|h|h<;>omega)).trans (h.2 b h1 h2 h3)⟩
theorem Save2.below (hb:Below B w' w'') (hB:w.heap.size<=B):Save2 x y w w'':=⟨Nat.le_trans h.1 hb.size,fun b h1 h2 h3=>(hb.block b (Nat.lt_of_lt_of_le h1 hB)).trans (h.2 b h1 h2 h3)⟩
theorem Save2.cells (b o:Nat) (hp:b=x\/b=y) (vs:List Value):Save2 x y w (w'.setCells b o vs):=by
 refine⟨by rw [size_setCells];exact h.1,fun k h1 h2 h3=>?_⟩
 exact (save_setCells w' b o vs k (Nat.lt_of_lt_of_le h1 h.1) (by rcases hp with e|e<;>rw [e]<;>assumption)).trans (h.2 k h1 h2 h3)
theorem Save2.reads (hr:Reads w w.heap.size size (some ad) n xs) (hx:ad.block≠x) (hy:ad.block≠y):Reads w' w'.heap.size size (some ad) n xs:=by
 refine⟨hr.1,fun hn=>?_⟩
 obtain⟨ad,e,hlt,hc⟩:=hr.2 hn
 injection e with e
 subst e
 refine⟨_,rfl,Nat.lt_of_lt_of_le hlt h.1,fun j u hu=>?_⟩
 rw [World.cell?_of_block (w:=w) (w':=w') (by rw [block_of_add];exact h.2 _ hlt hx hy)]
 exact hc j u hu
end
end
end
theorem Kept.cells {S:Nat->Prop} {w w':World} (h:Kept S w w') (b o:Nat) (hp:¬ S b\/w.heap.size<=b) (vs:List Value):Kept S w (w'.setCells b o vs):=by
 refine⟨by rw [size_setCells];exact h.1,fun k h1 h2=>?_⟩
 exact (save_setCells w' b o vs k (Nat.lt_of_lt_of_le h2 h.1) (by rintro rfl;rcases hp with h|h;exact h h1;omega)).trans (h.2 k h1 h2)
@[reducible] noncomputable def own15F:Func:=Try.f17
theorem mailC_one {kind term index prev commit:Int} {good:Bool} {eA:O} {en ec:Nat} {data:ByteArray} {hA:O} {hn hc:Nat} {epoch site atN atE whN whE:Int} {oA:O} {on oc:Nat} {pA:O} {pn pc:Nat} :
 (mailC kind term index prev commit good eA en ec data hA hn hc epoch site atN atE whN whE oA on oc pA pn pc).all (·.oneCell')=true:=all_oneCell_toArray (by
 intro v hv
 simp only [List.mem_cons,List.not_mem_nil,or_false] at hv
 rcases hv with rfl|rfl|rfl|rfl|rfl|rfl|rfl|rfl|rfl|rfl|rfl|rfl|rfl|rfl|rfl|rfl|rfl<;>rfl)
section
variable {c0:Array Value} {good:Bool} {data:ByteArray} {atE atN commit epoch index kind prev site term whE whN:Int} {ec en hc hn oc on pc pn:Nat} {eA hA oA pA:O}
theorem Try.sizeMail:(prog.info? 30).map (·.size)=some 17:=by kernel_rfl
theorem own15_last (R:Ending->World->Prop) (a:Act) (w:World) (bx rb:Nat) (hfr:Fr 23 a [(1,bx),(2,rb)]) (hbx:Blk w bx 30 (mailC kind term index prev commit good eA en ec data hA hn hc epoch site atN atE whN whE oA on oc pA pn pc)) (hrb:Blk w rb 30 c0) (hc0:c0.size=17) (hR:∀ w',w'=w.setCells rb 0 (mailC kind term index prev commit good eA en ec data hA hn hc epoch site atN atE whN whE oA on oc pA pn pc).toList->R (.returned (.agg (mailC kind term index prev commit good eA en ec data hA hn hc epoch site atN atE whN whE oA on oc pA pn pc))) w') :
 (part [1,1,1,1,1] (codeOf own15F)).wp prog (bodyPost prog own15F R) a w:=by
 have hb2:=hrb.setCells_ (mailC kind term index prev commit good eA en ec data hA hn hc epoch site atN atE whN whE oA on oc pA pn pc).toList (by rw [hc0];rfl)
 obtain⟨t,df⟩:=a
 obtain⟨hd,hs,h1,h2,-⟩:=hfr
 simp only at hd hs h1 h2
 subst hd
 rw [eta23 t hs,h1,h2]
 clear hs h1 h2
 refine w2p ?_
 intro K hK
 conv=>arg 2;whnf
 refine wp_region_lit ?_
 refine wpList_load_mid rfl 30 (.tmp 1) rfl bx 0 rfl _ _ hbx.range underlying30 rfl Try.sizeMail ?_
 refine wpList_store_mid rfl 30 (.tmp 2) (.tmp 22) rfl rb 0 (mailC kind term index prev commit good eA en ec data hA hn hc epoch site atN atE whN whE oA on oc pA pn pc) rfl rfl (hrb.there_ 0 _ (by rw [hc0];exact Nat.le_refl _)) Try.sizeMail mailC_one ?_
 refine wpList_nil ?_
 refine hK _ _ ?_
 conv=>arg 2;whnf
 refine wp_ret ?_
 refine bodyPost_ret (results_cell rfl rfl hb2.range underlying30 rfl Try.sizeMail) rfl ?_
 exact hR _ rfl
end
@[reducible] def noMailC:Array Value:=mailC 0 0 0 0 0 false none 0 0 ⟨#[]⟩ none 0 0 0 0 0 0 0 0 none 0 0 none 0 0
theorem own15_any (cells:Array Value) (m:MailC) (w:World) {S:Nat->Prop} (h:MailIs w S cells m) (hok:m.Ok) (hsm:m.ops.length<=4294967296) :
 Calls prog 17 #[.agg cells] w fun e w'=>∃ cells',e=.returned (.agg cells')/\MailIs w' (From w.heap.size) cells' m/\Below w w w':=by
 obtain⟨eA,en,ec,hA,hn,hc,oA,on,oc,pA,pn,pc,rfl,h1,h2,h3,h4⟩:=h
 have l1:=h1.len
 have l2:=h2.len
 have l3:=h3.len
 have l4:=h4.len
 have z1:en*24<=140737488351232:=by rw [<-l1];exact hok.ents
 have z2:hn*16<=140737488351232:=by rw [<-l2];exact hok.hs
 have z3:on*8<=140737488351232:=by rw [<-l3];exact hok.holes
 have z4:pn<=4294967296:=by rw [<-l4];exact hsm
 have hw1:Below w w ((w.alloc (.cells (mailC m.kind m.term m.index m.prev m.commit m.good eA en ec m.data hA hn hc m.epoch m.site m.atN m.atE m.whN m.whE oA on oc pA pn pc) 30)).alloc (.cells noMailC 30)):=((Below.refl _ _).alloc (Nat.le_refl _) _).alloc (by simp) _
 have hx1:Blk ((w.alloc (.cells (mailC m.kind m.term m.index m.prev m.commit m.good eA en ec m.data hA hn hc m.epoch m.site m.atN m.atE m.whN m.whE oA on oc pA pn pc) 30)).alloc (.cells noMailC 30)) w.heap.size 30 (mailC m.kind m.term m.index m.prev m.commit m.good eA en ec m.data hA hn hc m.epoch m.site m.atN m.atE m.whN m.whE oA on oc pA pn pc):=(Blk.new w _ _).alloc _
 have hr1:Blk ((w.alloc (.cells (mailC m.kind m.term m.index m.prev m.commit m.good eA en ec m.data hA hn hc m.epoch m.site m.atN m.atE m.whN m.whE oA on oc pA pn pc) 30)).alloc (.cells noMailC 30)) (w.heap.size+1) 30 noMailC:=by
  have:=Blk.new (w.alloc (.cells (mailC m.kind m.term m.index m.prev m.commit m.good eA en ec m.data hA hn hc m.epoch m.site m.atN m.atE m.whN m.whE oA on oc pA pn pc) 30)) 30 noMailC
  simpa using this
 have hem:=own_empty ((w.alloc (.cells (mailC m.kind m.term m.index m.prev m.commit m.good eA en ec m.data hA hn hc m.epoch m.site m.atN m.atE m.whN m.whE oA on oc pA pn pc) 30)).alloc (.cells noMailC 30)) 9 1
 have es:((w.alloc (.cells (mailC m.kind m.term m.index m.prev m.commit m.good eA en ec m.data hA hn hc m.epoch m.site m.atN m.atE m.whN m.whE oA on oc pA pn pc) 30)).alloc (.cells noMailC 30)).heap.size=w.heap.size+1+1:=by simp
 rw [es] at hem
 obtain⟨j0,hj0,hy0,hy1,hy2⟩:=info_parts Try.infoStr
 obtain⟨HJ,HY0,HY1,HY2⟩:=J4 hj0 hy0 hy1 hy2
 obtain⟨i0,hi0,hz0,hz1,hz2⟩:=info_parts Try.infoInt
 obtain⟨HI,HZ0,HZ1,HZ2⟩:=J4 hi0 hz0 hz1 hz2
 obtain⟨e0,he0,hx0,hx01,hx2⟩:=info_parts Try.infoEnt
 obtain⟨HE,HX0,HX1,HX2,HEM,HW1,HB1,HR1,R1⟩:=J9 he0 hx0 hx01 hx2 hem hw1 hx1 hr1 h1
 obtain⟨R2,R3,R4,HOK⟩:=J4 h2 h3 h4 hok
 clear hj0 hy0 hy1 hy2 hi0 hz0 hz1 hz2 he0 hx0 hx01 hx2 hem hw1 hx1 hr1 h1 h2 h3 h4 l1 l2 l3 l4 es hok hsm
 go_enter func17,ntmps17
 conv=>arg 2;arg 2;arg 2;arg 2;arg 2;arg 2;change part [1,1,1,1,1] (codeOf own15F)
 go_wp2_with (at_builtin;refine wpList_append_any _ rfl (.tmp 3) (.tmp 5) _ rfl (w.heap.size+1+1) 9 j0 _ 1 16 underlying24 HJ.out HY0.out HY1.out HY2.out rfl (by omega) (.slice (some ⟨w.heap.size+1+1,0,none⟩) 0 0) 0 [] rfl HEM.out w.heap.size hA hn hc (strV m.hs) rfl ((R2.out.1.reads.below HW1.out).alloc (by simp;omega) _) (strV_one m.hs) ?c1 ?c2 ?c3 ?_)
 case c1=>unfold maxLen;omega
 case c2=>omega
 case c3=>simp
 intro v1 w2 hown1 hg1 hat1
 try simp only [Nat.zero_add,List.nil_append] at hown1
 obtain⟨g1,c1,cur1,rfl,hc1,hcm1,hge1,_,hrd1⟩:=own_blk hown1 hat1
 have hs1:w.heap.size+3<=w2:=by have:=hg1.size;simpa using this
 have hx2:=(HB1.out.alloc (.cells #[] 9)).grown hg1 (by simp [Value.ownBlock];omega)
 have hr2:=(HR1.out.alloc (.cells #[] 9)).grown hg1 (by simp [Value.ownBlock])
 have hw2:Below w w w2:=(HW1.out.alloc (by simp;omega) _).grown hg1 (by simp;omega) (by intro k hk;simp [Value.ownBlock] at hk;omega)
 have d8:=hx2.cell 8
 have f8:=hx2.frozen 8
 simp at d8
 have hx2':Blk (w2.setCell ⟨w.heap.size,8,none⟩ (.slice (some ⟨g1,0,none⟩) hn c1)) w.heap.size 30 (mailC m.kind m.term m.index m.prev m.commit m.good eA en ec m.data (some ⟨g1,0,none⟩) hn c1 m.epoch m.site m.atN m.atE m.whN m.whE oA on oc pA pn pc):=hx2.set_ 8 _
 have hr2':Blk (w2.setCell ⟨w.heap.size,8,none⟩ (.slice (some ⟨g1,0,none⟩) hn c1)) (w.heap.size+1) 30 noMailC:=hr2.far (by simp) _
 have hw2':Below w w (w2.setCell ⟨w.heap.size,8,none⟩ (.slice (some ⟨g1,0,none⟩) hn c1)):=hw2.setCell (p:=⟨w.heap.size,8,none⟩) (Nat.le_refl _) _
 have hs2:Save2 w.heap.size (w.heap.size+1) w2 (w2.setCell ⟨w.heap.size,8,none⟩ (.slice (some ⟨g1,0,none⟩) hn c1)):=(Save2.refl _).set_ _ (.inl rfl) _
 have hrd2:=hs2.reads hrd1 (by simp;omega) (by simp;omega)
 have hem2:=own_empty (w2.setCell ⟨w.heap.size,8,none⟩ (.slice (some ⟨g1,0,none⟩) hn c1)) 3 1
 rw [setCell_size] at hem2
 have HEM2:=J hem2
 have k15:((w2.setCell ⟨w.heap.size,8,none⟩ (.slice (some ⟨g1,0,none⟩) hn c1)).alloc (.cells #[] 3)).cell? ⟨w.heap.size,15,none⟩=some (.slice oA on oc):=(hx2'.alloc _).cell 15
 obtain⟨HX2,HR2,HW2,HRD2,HC1⟩:=J5 hx2' hr2' hw2' hrd2 hcm1
 clear hown1 hg1 hat1 hrd1 hx2 hr2 hw2 hx2' hr2' hw2' hs2 hrd2 hem2 hcm1
 go_wp2_with (at_builtin;refine wpList_append_any _ rfl (.tmp 8) (.tmp 10) _ rfl w2.heap.size 3 i0 _ 1 8 underlying27 HI.out HZ0.out HZ1.out HZ2.out rfl (by omega) (.slice (some ⟨w2.heap.size,0,none⟩) 0 0) 0 [] rfl HEM2.out w.heap.size oA on oc (intV .i64 m.holes) rfl ((R3.out.1.reads.below HW2.out).alloc (by simp;omega) _) (intV_one m.holes) ?c1 ?c2 ?c3 ?_)
 case c1=>unfold maxLen;omega
 case c2=>omega
 case c3=>simp
 intro v2 w3 hown2 hg2 hat2
 try simp only [Nat.zero_add,List.nil_append] at hown2
 obtain⟨g2,c2,cur2,rfl,hc2,hcm2,hge2,_,hrd3⟩:=own_blk hown2 hat2
 have hs3:w2.heap.size+1<=w3:=by have:=hg2.size;simpa using this
 have hx3:=(HX2.out.alloc (.cells #[] 3)).grown hg2 (by simp [Value.ownBlock];omega)
 have hr3:=(HR2.out.alloc (.cells #[] 3)).grown hg2 (by simp [Value.ownBlock];omega)
 have hw3:Below w w w3:=(HW2.out.alloc (by simp;omega) _).grown hg2 (by simp;omega) (by intro k hk;simp [Value.ownBlock] at hk;omega)
 have hq3:Save2 w.heap.size (w.heap.size+1) (w2.setCell ⟨w.heap.size,8,none⟩ (.slice (some ⟨g1,0,none⟩) hn c1)) w3:=((Save2.refl _).alloc _).grown hg2 (by intro k hk;simp [Value.ownBlock] at hk;simp;omega)
 have hrd2:=hq3.reads HRD2.out (by simp;omega) (by simp;omega)
 have d15:=hx3.cell 15
 have f15:=hx3.frozen 15
 simp at d15
 have hx3':Blk (w3.setCell ⟨w.heap.size,15,none⟩ (.slice (some ⟨g2,0,none⟩) on c2)) w.heap.size 30 (mailC m.kind m.term m.index m.prev m.commit m.good eA en ec m.data (some ⟨g1,0,none⟩) hn c1 m.epoch m.site m.atN m.atE m.whN m.whE (some ⟨g2,0,none⟩) on c2 pA pn pc):=hx3.set_ 15 _
 have hr3':Blk (w3.setCell ⟨w.heap.size,15,none⟩ (.slice (some ⟨g2,0,none⟩) on c2)) (w.heap.size+1) 30 noMailC:=hr3.far (by simp) _
 have hw3':Below w w (w3.setCell ⟨w.heap.size,15,none⟩ (.slice (some ⟨g2,0,none⟩) on c2)):=hw3.setCell (p:=⟨w.heap.size,15,none⟩) (Nat.le_refl _) _
 have hs3':Save2 w.heap.size (w.heap.size+1) w3 (w3.setCell ⟨w.heap.size,15,none⟩ (.slice (some ⟨g2,0,none⟩) on c2)):=(Save2.refl _).set_ _ (.inl rfl) _
 have hrd2':=hs3'.reads hrd2 (by simp;omega) (by simp;omega)
 have hrd3':=hs3'.reads hrd3 (by simp;omega) (by simp;omega)
 have hem3:=own_empty (w3.setCell ⟨w.heap.size,15,none⟩ (.slice (some ⟨g2,0,none⟩) on c2)) 150 2
 rw [setCell_size] at hem3
 have HEM3:=J hem3
 have k6:((w3.setCell ⟨w.heap.size,15,none⟩ (.slice (some ⟨g2,0,none⟩) on c2)).alloc (.cells #[] 150)).cell? ⟨w.heap.size,6,none⟩=some (.slice eA en ec):=(hx3'.alloc _).cell 6
 obtain⟨HX3,HR3,HW3⟩:=J3 hx3' hr3' hw3'
 have HRD2':=J hrd2'
 obtain⟨HRD3,HC2⟩:=J2 hrd3' hcm2
 clear hown2 hg2 hat2 hrd3 hx3 hr3 hw3 hx3' hr3' hw3' hs3' hq3 hrd2 hrd2' hrd3' hem3 hcm2 HRD2 HX2 HR2 HW2 d8 f8 k15
 go_wp2_with (at_builtin;refine wpList_append_any _ rfl (.tmp 13) (.tmp 15) _ rfl w3.heap.size 150 e0 _ 2 24 underlying23 HE.out HX0.out HX1.out HX2.out rfl (by omega) (.slice (some ⟨w3.heap.size,0,none⟩) 0 0) 0 [] rfl HEM3.out w.heap.size eA en ec (entV m.ents) rfl ((R1.out.1.reads.below HW3.out).alloc (by simp;omega) _) (entV_one m.ents) ?c1 ?c2 ?c3 ?_)
 case c1=>unfold maxLen;omega
 case c2=>omega
 case c3=>simp
 intro v3 w4 hown3 hg3 hat3
 try simp only [Nat.zero_add,List.nil_append] at hown3
 obtain⟨g3,c3,cur3,rfl,hc3,hcm3,hge3,_,hrd4⟩:=own_blk hown3 hat3
 have hs4:w3.heap.size+1<=w4:=by have:=hg3.size;simpa using this
 have hx4:=(HX3.out.alloc (.cells #[] 150)).grown hg3 (by simp [Value.ownBlock];omega)
 have hr4:=(HR3.out.alloc (.cells #[] 150)).grown hg3 (by simp [Value.ownBlock];omega)
 have hw4:Below w w w4:=(HW3.out.alloc (by simp;omega) _).grown hg3 (by simp;omega) (by intro k hk;simp [Value.ownBlock] at hk;omega)
 have hq4:Save2 w.heap.size (w.heap.size+1) (w3.setCell ⟨w.heap.size,15,none⟩ (.slice (some ⟨g2,0,none⟩) on c2)) w4:=((Save2.refl _).alloc _).grown hg3 (by intro k hk;simp [Value.ownBlock] at hk;simp;omega)
 have hrd2:=hq4.reads HRD2'.out (by simp;omega) (by simp;omega)
 have hrd3:=hq4.reads HRD3.out (by simp;omega) (by simp;omega)
 have d6:=hx4.cell 6
 have f6:=hx4.frozen 6
 have d16:=hx4.cell 16
 simp at d6 d16
 have hx4':Blk (w4.setCell ⟨w.heap.size,6,none⟩ (.slice (some ⟨g3,0,none⟩) en c3)) w.heap.size 30 (mailC m.kind m.term m.index m.prev m.commit m.good (some ⟨g3,0,none⟩) en c3 m.data (some ⟨g1,0,none⟩) hn c1 m.epoch m.site m.atN m.atE m.whN m.whE (some ⟨g2,0,none⟩) on c2 pA pn pc):=hx4.set_ 6 _
 have hr4':Blk (w4.setCell ⟨w.heap.size,6,none⟩ (.slice (some ⟨g3,0,none⟩) en c3)) (w.heap.size+1) 30 noMailC:=hr4.far (by simp) _
 have hw4':Below w w (w4.setCell ⟨w.heap.size,6,none⟩ (.slice (some ⟨g3,0,none⟩) en c3)):=hw4.setCell (p:=⟨w.heap.size,6,none⟩) (Nat.le_refl _) _
 have hs4':Save2 w.heap.size (w.heap.size+1) w4 (w4.setCell ⟨w.heap.size,6,none⟩ (.slice (some ⟨g3,0,none⟩) en c3)):=(Save2.refl _).set_ _ (.inl rfl) _
 have hrd2':=hs4'.reads hrd2 (by simp;omega) (by simp;omega)
 have hrd3':=hs4'.reads hrd3 (by simp;omega) (by simp;omega)
 have hrd4':=hs4'.reads hrd4 (by simp;omega) (by simp;omega)
 have hoo:=ownOps_any pA pn pc m.ops (w4.setCell ⟨w.heap.size,6,none⟩ (.slice (some ⟨g3,0,none⟩) en c3)) (R4.out.below hw4') z4 HOK.out.op
 obtain⟨HOO,HX4,HR4,HW4,HS2,HS3,HS4,HC3⟩:=J8 hoo hx4' hr4' hw4' hrd2' hrd3' hrd4' hcm3
 clear hown3 hg3 hat3 hrd4 hx4 hr4 hw4 hx4' hr4' hw4' hs4' hq4 hrd2 hrd3 hrd2' hrd3' hrd4' hoo hcm3 HRD2' HRD3 HX3 HR3 HW3 d15 f15 k6
 go_wp2_with fail
 refine HOO.out.mono ?_
 rintro e w5 ⟨A5,c5,rfl,hops5,hb5⟩
 rw [setCell_size] at hb5
 have hz5:=hb5.size
 rw [setCell_size] at hz5
 have hlt:w.heap.size+1<w4:=by omega
 have hx5:=HX4.out.below hb5 (by omega)
 have hr5:=HR4.out.below hb5 (by omega)
 have d16:=hx5.cell 16
 have f16:=hx5.frozen 16
 simp at d16
 have hx5':Blk (w5.setCell ⟨w.heap.size,16,none⟩ (.slice A5 pn c5)) w.heap.size 30 (mailC m.kind m.term m.index m.prev m.commit m.good (some ⟨g3,0,none⟩) en c3 m.data (some ⟨g1,0,none⟩) hn c1 m.epoch m.site m.atN m.atE m.whN m.whE (some ⟨g2,0,none⟩) on c2 A5 pn c5):=hx5.set_ 16 _
 have hr5':Blk (w5.setCell ⟨w.heap.size,16,none⟩ (.slice A5 pn c5)) (w.heap.size+1) 30 noMailC:=hr5.far (by simp) _
 obtain⟨HX5,HR5,HB5,HO5⟩:=J4 hx5' hr5' hb5 hops5
 clear hx5 hr5 hx5' hr5' hb5 hops5
 go_wp2_with fail
 refine own15_last _ _ _ w.heap.size (w.heap.size+1) ff HX5.out HR5.out rfl ?_
 rintro w6 rfl
 refine⟨_,rfl,?_,?_⟩
 ·have hl:w.heap.size+1<w4:=hlt
  have hk:Kept (From (w.heap.size+2)) (w4.setCell ⟨w.heap.size,6,none⟩ (.slice (some ⟨g3,0,none⟩) en c3)) ((w5.setCell ⟨w.heap.size,16,none⟩ (.slice A5 pn c5)).setCells (w.heap.size+1) 0 (mailC m.kind m.term m.index m.prev m.commit m.good (some ⟨g3,0,none⟩) en c3 m.data (some ⟨g1,0,none⟩) hn c1 m.epoch m.site m.atN m.atE m.whN m.whE (some ⟨g2,0,none⟩) on c2 A5 pn c5).toList):=
   ((Kept.of _ (by rw [setCell_size];exact HB5.out)).set_ ⟨w.heap.size,16,none⟩ (.inl (by show ¬ _<=w.heap.size;omega)) _).cells (w.heap.size+1) 0 (.inl (by show ¬ _<=_;omega)) _
  have hk2:Kept (From w4.heap.size) w5 ((w5.setCell ⟨w.heap.size,16,none⟩ (.slice A5 pn c5)).setCells (w.heap.size+1) 0 (mailC m.kind m.term m.index m.prev m.commit m.good (some ⟨g3,0,none⟩) en c3 m.data (some ⟨g1,0,none⟩) hn c1 m.epoch m.site m.atN m.atE m.whN m.whE (some ⟨g2,0,none⟩) on c2 A5 pn c5).toList):=
   ((Kept.refl _ _).set_ ⟨w.heap.size,16,none⟩ (.inl (by show ¬ _<=w.heap.size;omega)) _).cells (w.heap.size+1) 0 (.inl (by show ¬ _<=_;omega)) _
  have ho:=HO5.out
  rw [setCell_size] at ho
  have r1:Rs _ (From (w.heap.size+2)) 1 (some ⟨g1,0,none⟩) hn (strV m.hs):=Rs.of HS2.out fun _ ad e=>by injection e with e;subst e;show _<=g1;omega
  have r2:Rs _ (From (w.heap.size+2)) 1 (some ⟨g2,0,none⟩) on (intV .i64 m.holes):=Rs.of HS3.out fun _ ad e=>by injection e with e;subst e;show _<=g2;omega
  have r3:Rs _ (From (w.heap.size+2)) 2 (some ⟨g3,0,none⟩) en (entV m.ents):=Rs.of HS4.out fun _ ad e=>by injection e with e;subst e;show _<=g3;omega
  have up:∀ b,w.heap.size+2<=b->w.heap.size<=b:=fun b h=>by omega
  have up2:∀ b,w4.heap.size<=b->w.heap.size<=b:=fun b h=>by omega
  exact⟨_,en,c3,_,hn,c1,_,on,c2,A5,pn,c5,rfl,⟨(r3.keep hk.1 hk.2).mono fun b _ h=>up b h,hc3,HC3.out⟩,⟨(r1.keep hk.1 hk.2).mono fun b _ h=>up b h,hc1,HC1.out⟩,⟨(r2.keep hk.1 hk.2).mono fun b _ h=>up b h,hc2,HC2.out⟩,(ho.kept hk2).mono fun b _ h=>up2 b h⟩
 ·exact below_setCells (by omega) ((HW4.out.trans (HB5.out.mono (by omega))).setCell (p:=⟨w.heap.size,16,none⟩) (Nat.le_refl _) _) _ _
def hasB (cs:List OpC) (N E:Int):Bool:=(decide (N=0)&&decide (E=0))||(decide (1<=N)&&(decide (N<=cs.length)&&match cs[(N-1).toNat]? with|some c=>decide (c.n=N)&&decide (c.epoch=E)|none=>false))
section
variable {ad:Addr} {E N:Int} {c1 cap g hc hn k n:Nat} {A hA:O}
section
variable (w:World) (hg:Blk w g 26 #[N,E])
include w hg
theorem has_zero (hN:N=0) (hE:E=0) :
 Calls prog 54 #[.slice A n cap,.slice (some ⟨g,0,none⟩) 1 c1] w fun x w'=>x=.returned (.bool true)/\Below w w w':=by
 obtain⟨hc0,hc1⟩:=hg.cs 0 2
 clear hg
 subst hN hE
 go_enter func54,ntmps54
 go_wp2_with fail
 go_loopw [9] (fun i wr=>(i=.int .i64 0/\w=wr)\/(i=.int .i64 1/\Below w w wr)) (fun i _=>1-(intOf i).toNat)
 case atStart=>exact .inl ⟨rfl,rfl⟩
 case round=>
  rcases hrel with ⟨rfl,rfl⟩|⟨rfl,hb⟩
  ·go_wp2_with fail
   go_quiet (fail)
   go_wp2
   go_roundw
   case rel=>exact .inr ⟨by go_num,below_drewN ((Below.refl _ _).alloc (Nat.le_refl _) _) _⟩
   case measure=>simp [intOf]
  ·go_wp2
   go_ret
   exact⟨rfl,hb⟩
theorem has_low (hN:N<1) (hNE:¬ (N=0/\E=0)) :
 Calls prog 54 #[.slice A n cap,.slice (some ⟨g,0,none⟩) 1 c1] w fun x w'=>x=.returned (.bool false)/\Below w w w':=by
 obtain⟨hc0,hc1⟩:=hg.cs 0 2
 have hba:Below w w (w.alloc (.cells #[N,E] 26)):=(Below.refl _ _).alloc (Nat.le_refl _) _
 have HBA:=J hba
 have HBK:=J (Blk.new w 26 #[N,E])
 clear hg hba
 go_enter func54,ntmps54
 go_wp2_with fail
 go_loopw [9] (fun i wr=>i=.int .i64 0/\w=wr) (fun _ _=>0)
 case atStart=>exact⟨rfl,rfl⟩
 case round=>
  obtain⟨rfl,rfl⟩:=hrel
  go_wp2_with fail
  refine wp_region_all kr (fun i v W=>match i with|0=>v=.agg #[N,E]|1=>v=.agg #[.int .i64 0,.int .i64 0]|2=>v=.bool true|3=>v=.bool true|4=>v=.pointer (some ⟨w.heap.size,0,none⟩)|5=>v=N|6=>v=.bool true|7=>v=.bool true|8=>v=undef|9=>v=undef|10=>v=undef|11=>v=undef|12=>v=undef|13=>v=.bool true|14=>v=.bool true|15=>v=undef|16=>v=undef|17=>v=undef|18=>v=undef|19=>v=undef|20=>v=undef|21=>v=undef|22=>v=undef|23=>v=undef|24=>v=.bool true|25=>v=.bool true|_=>True) (fun W=>Below w w W/\Blk W w 26 #[N,E]) (fun W W'=>Below W W W') kr ?hG ?hmono ?hstep ?hend
  case hG=>exact⟨HBA.out.drew,HBK.out.drew⟩
  case hmono=>
   intro i v W W' _ hv
   match i with
   | 0|1|2|3|4|5|6|7|8|9|10|11|12|13|14|15|16|17|18|19|20|21|22|23|24|25=>exact hv
   | i+26=>exact hv
  case hstep=>
   intro i o F U W ho hGW hat hoff hp
   have hrefl:=fun W:World=>Below.refl W.heap.size W
   have:=ot 0 (.slice A n cap)
   have:=ot 6 (.pointer (some ⟨w.heap.size,0,none⟩))
   obtain⟨qa,qb⟩:=J2 hat hp
   clear hat hoff hp
   match i with
    | 0=>
     exact Y124
    | 1=>cases ho;exact vno
    | 2=>
     exact Y135
    | 3=>cases ho;have:=tx 2 15;exact vna
    | 4=>cases ho;refine onv 3 16 ?_;exact vlo
    | 5=>
     cases ho;refine onv 3 16 ?_;have:=tx 4 17;have c0:=hGW.2.c1 0
     exact Y131
    | 6=>cases ho;refine onv 3 16 ?_;have:=tx 5 18;exact vlo
    | 7=>cases ho;refine onv 3 16 ?_;have:=tx 6 19;exact vla
    | 8|9|10|11|12=>cases ho;exact ofv 7 20
    | 13=>cases ho;refine onv 3 16 ?_;have:=tx 7 20;exact vlo
    | 14=>cases ho;refine onv 3 16 ?_;have:=tx 13 26;exact vla
    | 15|16|17|18|19|20|21|22|23=>cases ho;exact ofv 14 27
    | 24=>cases ho;refine onv 3 16 ?_;have:=tx 14 27;exact vlo
    | 25=>cases ho;have:=tx 3 16;have:=tx 24 37;exact vno
    | i+26=>exact absurd ho (by simp)
  case hend=>
   exact Y55
theorem has_high (hN:1<=N) (hNn:(n:Int)<N) :
 Calls prog 54 #[.slice A n cap,.slice (some ⟨g,0,none⟩) 1 c1] w fun x w'=>x=.returned (.bool false)/\Below w w w':=by
 obtain⟨hc0,hc1⟩:=hg.cs 0 2
 have hba:Below w w (w.alloc (.cells #[N,E] 26)):=(Below.refl _ _).alloc (Nat.le_refl _) _
 have HBA:=J hba
 have HBK:=J (Blk.new w 26 #[N,E])
 clear hg hba
 go_enter func54,ntmps54
 go_wp2_with fail
 go_loopw [9] (fun i wr=>i=.int .i64 0/\w=wr) (fun _ _=>0)
 case atStart=>exact⟨rfl,rfl⟩
 case round=>
  obtain⟨rfl,rfl⟩:=hrel
  go_wp2_with fail
  refine wp_region_all kr (fun i v W=>match i with|0=>v=.agg #[N,E]|1=>v=.agg #[.int .i64 0,.int .i64 0]|2=>v=.bool true|3=>v=.bool true|4=>v=.pointer (some ⟨w.heap.size,0,none⟩)|5=>v=N|6=>v=.bool false|7=>v=.bool false|8=>v=.pointer (some ⟨w.heap.size,0,none⟩)|9=>v=N|10=>v=.slice A n cap|11=>v=.int .i64 (n:Nat)|12=>v=.bool true|13=>v=.bool true|14=>v=.bool true|15=>v=undef|16=>v=undef|17=>v=undef|18=>v=undef|19=>v=undef|20=>v=undef|21=>v=undef|22=>v=undef|23=>v=undef|24=>v=.bool true|25=>v=.bool true|_=>True) (fun W=>Below w w W/\Blk W w 26 #[N,E]) (fun W W'=>Below W W W') kr ?hG ?hmono ?hstep ?hend
  case hG=>exact⟨HBA.out.drew,HBK.out.drew⟩
  case hmono=>
   intro i v W W' _ hv
   match i with
   | 0|1|2|3|4|5|6|7|8|9|10|11|12|13|14|15|16|17|18|19|20|21|22|23|24|25=>exact hv
   | i+26=>exact hv
  case hstep=>
   intro i o F U W ho hGW hat hoff hp
   have hrefl:=fun W:World=>Below.refl W.heap.size W
   have:=ot 0 (.slice A n cap)
   have:=ot 6 (.pointer (some ⟨w.heap.size,0,none⟩))
   obtain⟨qa,qb⟩:=J2 hat hp
   clear hat hoff hp
   match i with
    | 0=>
     exact Y124
    | 1=>cases ho;exact vno
    | 2=>
     exact Y135
    | 3=>cases ho;have:=tx 2 15;exact vna
    | 4=>cases ho;refine onv 3 16 ?_;exact vlo
    | 5=>
     cases ho;refine onv 3 16 ?_;have:=tx 4 17;have c0:=hGW.2.c1 0
     exact Y131
    | 6=>cases ho;refine onv 3 16 ?_;have:=tx 5 18;exact vlo
    | 7=>cases ho;refine onv 3 16 ?_;have:=tx 6 19;exact vla
    | 8=>cases ho;refine onv 7 20 ?_;exact vlo
    | 9=>
     cases ho;refine onv 7 20 ?_;have:=tx 8 21;have c0:=hGW.2.c1 0
     exact Y131
    | 10=>cases ho;refine onv 7 20 ?_;exact vla
    | 11=>cases ho;refine onv 7 20 ?_;have:=tx 10 23;exact vlo
    | 12=>cases ho;refine onv 7 20 ?_;have:=tx 9 22;have:=tx 11 24;exact vlo
    | 13=>cases ho;refine onv 3 16 ?_;have:=tx 7 20;have:=tx 12 25;exact vlo
    | 14=>cases ho;refine onv 3 16 ?_;have:=tx 13 26;exact vla
    | 15|16|17|18|19|20|21|22|23=>cases ho;exact ofv 14 27
    | 24=>cases ho;refine onv 3 16 ?_;have:=tx 14 27;exact vlo
    | 25=>cases ho;have:=tx 3 16;have:=tx 24 37;exact vno
    | i+26=>exact absurd ho (by simp)
  case hend=>
   exact Y55
end
section
variable (c:OpC) (w:World) (hg:Blk w g 26 #[.int .i64 ((k:Int)+1),E]) (hk:k<n) (hz:n<=4294967296) (hab:(ad.add (k*9)).block<w) (hop:OpAt w (ad.add (k*9)) (c.at_ hA hn hc))
include c w hg hk hz hab hop
theorem has_not (hne:¬ (c.n=(k:Int)+1/\c.epoch=E)) :
 Calls prog 54 #[.slice (some ad) n cap,.slice (some ⟨g,0,none⟩) 1 c1] w fun x w'=>x=.returned (.bool false)/\Below w w w':=by
 obtain⟨hc0,hc1⟩:=hg.cs 0 2
 have hba:Below w w (w.alloc (.cells #[.int .i64 ((k:Int)+1),E] 26)):=(Below.refl _ _).alloc (Nat.le_refl _) _
 have HBA:=J hba
 have HBK:=J (Blk.new w 26 #[.int .i64 ((k:Int)+1),E])
 clear hg hba
 obtain⟨x1,x2,x3,x4,x5,x6,x7,x8,x9⟩:=c
 simp only [OpC.at_] at hop hne
 obtain⟨HP,HAB⟩:=J2 hop hab
 clear hop hab
 have b1:(0:Int)<=(k:Int):=by omega
 have b2:(k:Int)<(n:Int):=by omega
 go_enter func54,ntmps54
 go_wp2_with fail
 go_loopw [9] (fun i wr=>i=.int .i64 0/\w=wr) (fun _ _=>0)
 case atStart=>exact⟨rfl,rfl⟩
 case round=>
  obtain⟨rfl,rfl⟩:=hrel
  go_wp2_with fail
  refine wp_region_all kr (fun i v W=>match i with|0=>v=.agg #[.int .i64 ((k:Int)+1),E]|1=>v=.agg #[.int .i64 0,.int .i64 0]|2=>v=.bool true|3=>v=.bool true|4=>v=.pointer (some ⟨w.heap.size,0,none⟩)|5=>v=.int .i64 ((k:Int)+1)|6=>v=.bool false|7=>v=.bool false|8=>v=.pointer (some ⟨w.heap.size,0,none⟩)|9=>v=.int .i64 ((k:Int)+1)|10=>v=.slice (some ad) n cap|11=>v=.int .i64 (n:Nat)|12=>v=.bool false|13=>v=.bool false|14=>v=.bool false|15=>v=.slice (some ad) n cap|16=>v=.pointer (some ⟨w.heap.size,0,none⟩)|17=>v=.int .i64 ((k:Int)+1)|18=>v=.int .i64 (k:Nat)|19=>v=.pointer (some (ad.add (k*9)))|20=>v=.agg #[.int .i64 x1,.int .i64 x2,.int .i64 x3,.int .i64 x4,.int .i64 x5,.int .i64 x6,.string x7,.int .i64 x8,.slice hA hn hc]|21=>v=.agg #[.int .i64 x1,.int .i64 x2]|22=>v=.agg #[.int .i64 ((k:Int)+1),E]|23=>v=.bool true|24=>v=.bool true|25=>v=.bool true|_=>True) (fun W=>Below w w W/\Blk W w 26 #[.int .i64 ((k:Int)+1),E]) (fun W W'=>Below W W W') kr ?hG ?hmono ?hstep ?hend
  case hG=>exact⟨HBA.out.drew,HBK.out.drew⟩
  case hmono=>
   intro i v W W' _ hv
   match i with
   | 0|1|2|3|4|5|6|7|8|9|10|11|12|13|14|15|16|17|18|19|20|21|22|23|24|25=>exact hv
   | i+26=>exact hv
  case hstep=>
   exact Y2
  case hend=>
   exact Y55
theorem has_yes (hne:c.n=(k:Int)+1/\c.epoch=E) :
 Calls prog 54 #[.slice (some ad) n cap,.slice (some ⟨g,0,none⟩) 1 c1] w fun x w'=>x=.returned (.bool true)/\Below w w w':=by
 obtain⟨hc0,hc1⟩:=hg.cs 0 2
 have hba:Below w w (w.alloc (.cells #[.int .i64 ((k:Int)+1),E] 26)):=(Below.refl _ _).alloc (Nat.le_refl _) _
 have HBA:=J hba
 have HBK:=J (Blk.new w 26 #[.int .i64 ((k:Int)+1),E])
 clear hg hba
 obtain⟨x1,x2,x3,x4,x5,x6,x7,x8,x9⟩:=c
 simp only [OpC.at_] at hop hne
 obtain⟨HP,HAB⟩:=J2 hop hab
 clear hop hab
 have b1:(0:Int)<=(k:Int):=by omega
 have b2:(k:Int)<(n:Int):=by omega
 obtain⟨m1,m2⟩:=hne
 go_enter func54,ntmps54
 go_wp2_with fail
 go_loopw [9] (fun i wr=>(i=.int .i64 0/\w=wr)\/(i=.int .i64 1/\Below w w wr)) (fun i _=>1-(intOf i).toNat)
 case atStart=>exact .inl ⟨rfl,rfl⟩
 case round=>
  rcases hrel with ⟨rfl,rfl⟩|⟨rfl,hb⟩
  ·go_wp2_with fail
   refine wp_region_all kr (fun i v W=>match i with|0=>v=.agg #[.int .i64 ((k:Int)+1),E]|1=>v=.agg #[.int .i64 0,.int .i64 0]|2=>v=.bool true|3=>v=.bool true|4=>v=.pointer (some ⟨w.heap.size,0,none⟩)|5=>v=.int .i64 ((k:Int)+1)|6=>v=.bool false|7=>v=.bool false|8=>v=.pointer (some ⟨w.heap.size,0,none⟩)|9=>v=.int .i64 ((k:Int)+1)|10=>v=.slice (some ad) n cap|11=>v=.int .i64 (n:Nat)|12=>v=.bool false|13=>v=.bool false|14=>v=.bool false|15=>v=.slice (some ad) n cap|16=>v=.pointer (some ⟨w.heap.size,0,none⟩)|17=>v=.int .i64 ((k:Int)+1)|18=>v=.int .i64 (k:Nat)|19=>v=.pointer (some (ad.add (k*9)))|20=>v=.agg #[.int .i64 x1,.int .i64 x2,.int .i64 x3,.int .i64 x4,.int .i64 x5,.int .i64 x6,.string x7,.int .i64 x8,.slice hA hn hc]|21=>v=.agg #[.int .i64 x1,.int .i64 x2]|22=>v=.agg #[.int .i64 ((k:Int)+1),E]|23=>v=.bool false|24=>v=.bool false|25=>v=.bool false|_=>True) (fun W=>Below w w W/\Blk W w 26 #[.int .i64 ((k:Int)+1),E]) (fun W W'=>Below W W W') kr ?hG ?hmono ?hstep ?hend
   case hG=>exact⟨HBA.out.drew,HBK.out.drew⟩
   case hmono=>
    intro i v W W' _ hv
    match i with
    | 0|1|2|3|4|5|6|7|8|9|10|11|12|13|14|15|16|17|18|19|20|21|22|23|24|25=>exact hv
    | i+26=>exact hv
   case hstep=>
    exact Y2
   case hend=>
    intro U W hGW hV
    have h25:U 25=.bool false:=hV 25 kd
    obtain⟨HG,HU⟩:=J2 hGW.1 h25
    clear hV hGW h25
    simp [putU,dstAt,Act.put,HU.out]
    go_wp2
    go_roundw
    case rel=>exact .inr ⟨by go_num,HG.out⟩
    case measure=>simp [intOf]
  ·go_wp2
   go_ret
   exact⟨rfl,hb⟩
end
end
end Go.Proofs.Ytaipgdhdfpemcaa
