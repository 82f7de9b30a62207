/- THE WALKS OF THE LANE, part 31. -/
import Derived.Test.YtaipgdhdfpemcaaG20
import Derived.Test.YtaipgdhdfpemcaaG27
namespace Go.Proofs.Ytaipgdhdfpemcaa
set_option linter.all false
open Go.RowKit Go.Proofs.Try
set_option maxRecDepth 100000
set_option maxHeartbeats 4000000
theorem eta128 (t:Array Value) (h:t.size=128):t=#[at_ t 0,at_ t 1,at_ t 2,at_ t 3,at_ t 4,at_ t 5,at_ t 6,at_ t 7,at_ t 8,at_ t 9,at_ t 10,at_ t 11,at_ t 12,at_ t 13,at_ t 14,at_ t 15,at_ t 16,at_ t 17,at_ t 18,at_ t 19,at_ t 20,at_ t 21,at_ t 22,at_ t 23,at_ t 24,at_ t 25,at_ t 26,at_ t 27,at_ t 28,at_ t 29,at_ t 30,at_ t 31,at_ t 32,at_ t 33,at_ t 34,at_ t 35,at_ t 36,at_ t 37,at_ t 38,at_ t 39,at_ t 40,at_ t 41,at_ t 42,at_ t 43,at_ t 44,at_ t 45,at_ t 46,at_ t 47,at_ t 48,at_ t 49,at_ t 50,at_ t 51,at_ t 52,at_ t 53,at_ t 54,at_ t 55,at_ t 56,at_ t 57,at_ t 58,at_ t 59,at_ t 60,at_ t 61,at_ t 62,at_ t 63,at_ t 64,at_ t 65,at_ t 66,at_ t 67,at_ t 68,at_ t 69,at_ t 70,at_ t 71,at_ t 72,at_ t 73,at_ t 74,at_ t 75,at_ t 76,at_ t 77,at_ t 78,at_ t 79,at_ t 80,at_ t 81,at_ t 82,at_ t 83,at_ t 84,at_ t 85,at_ t 86,at_ t 87,at_ t 88,at_ t 89,at_ t 90,at_ t 91,at_ t 92,at_ t 93,at_ t 94,at_ t 95,at_ t 96,at_ t 97,at_ t 98,at_ t 99,at_ t 100,at_ t 101,at_ t 102,at_ t 103,at_ t 104,at_ t 105,at_ t 106,at_ t 107,at_ t 108,at_ t 109,at_ t 110,at_ t 111,at_ t 112,at_ t 113,at_ t 114,at_ t 115,at_ t 116,at_ t 117,at_ t 118,at_ t 119,at_ t 120,at_ t 121,at_ t 122,at_ t 123,at_ t 124,at_ t 125,at_ t 126,at_ t 127]:=(eta_ t h).trans kr
@[reducible] noncomputable def meetF:Func:=Try.f16
theorem Try.sizeCmd:(prog.info? 47).map (·.size)=some 16:=by kernel_rfl
theorem noMail_one:noMail.all (·.oneCell')=true:=mailC_one
theorem noCmd_one:noCmd.all (·.oneCell')=true:=all_oneCell_toArray (by
 intro v hv
 simp only [List.mem_cons,List.not_mem_nil,or_false] at hv
 rcases hv with rfl|rfl|rfl|rfl|rfl|rfl|rfl|rfl|rfl|rfl|rfl|rfl|rfl|rfl|rfl|rfl<;>rfl)
theorem eta15 (t:Array Value) (h:t.size=15):t=#[at_ t 0,at_ t 1,at_ t 2,at_ t 3,at_ t 4,at_ t 5,at_ t 6,at_ t 7,at_ t 8,at_ t 9,at_ t 10,at_ t 11,at_ t 12,at_ t 13,at_ t 14]:=(eta_ t h).trans kr
@[reducible] noncomputable def own11F:Func:=Try.f14
section
variable {cs:Array Value} {after epoch kind since site tag:Int} {b c g hc hn n pc pn:Nat} {S:Nat->Prop} {A hA pA:O} {o:OpC} {t:TypeId} {W w:World}
theorem cmdC_one:(cmdC kind epoch site o hA hn hc after since pA pn pc tag).all (·.oneCell')=true:=all_oneCell_toArray (by
 intro v hv
 simp only [List.mem_cons,List.not_mem_nil,or_false] at hv
 rcases hv with rfl|rfl|rfl|rfl|rfl|rfl|rfl|rfl|rfl|rfl|rfl|rfl|rfl|rfl|rfl|rfl<;>rfl)
theorem own11_last (R:Ending->World->Prop) (a:Act) (w:World) (bx rb:Nat) (hfr:Fr 15 a [(1,bx),(2,rb)]) (hbx:Blk w bx 47 (cmdC kind epoch site o hA hn hc after since pA pn pc tag)) (hrb:Blk w rb 47 noCmd) (hR:∀ w',w'=w.setCells rb 0 (cmdC kind epoch site o hA hn hc after since pA pn pc tag).toList->R (.returned (.agg (cmdC kind epoch site o hA hn hc after since pA pn pc tag))) w') :
 (part [1,1,1] (codeOf own11F)).wp prog (bodyPost prog own11F R) a w:=by
 have hb2:=hrb.setCells_ (cmdC kind epoch site o hA hn hc after since pA pn pc tag).toList rfl
 obtain⟨t,df⟩:=a
 obtain⟨hd,hs,h1,h2,-⟩:=hfr
 simp only at hd hs h1 h2
 subst hd
 rw [eta15 t hs,h1,h2]
 clear hs h1 h2
 refine Wq ?_
 intro K hK
 conv=>arg 2;whnf
 refine wp_region_lit ?_
 refine wpList_load_mid rfl 47 (.tmp 1) rfl bx 0 rfl _ _ hbx.range underlying47 rfl Try.sizeCmd ?_
 refine wpList_store_mid rfl 47 (.tmp 2) (.tmp 14) rfl rb 0 (cmdC kind epoch site o hA hn hc after since pA pn pc tag) rfl rfl (hrb.there_ 0 _ (Nat.le_refl _)) Try.sizeCmd cmdC_one ?_
 refine wpList_nil ?_
 refine hK _ _ ?_
 conv=>arg 2;whnf
 refine wp_ret ?_
 refine bodyPost_ret (results_cell rfl rfl hb2.range underlying47 rfl Try.sizeCmd) rfl ?_
 exact hR _ rfl
theorem one_op (h:Blk w g 45 (oC o.n o.epoch o.kind o.site o.client o.seq o.name o.size A n c)) (hs:StrIs w S A n c o.hs) (hg:S g):OpsIs w S (some ⟨g,0,none⟩) 1 1 [o]:=
 ⟨[o.at_ A n c],Rs.of (h.reads (n:=1) (size:=9) rfl) fun _ ad e=>by injection e with e;subst e;exact hg,⟨⟨A,n,c,rfl,hs⟩,trivial⟩,Nat.le_refl _,by unfold maxLen;omega⟩
theorem Try.sizeOp:(prog.info? 45).map (·.size)=some 9:=by kernel_rfl
theorem Blk.keptB (h:Blk w b t cs) (hk:Kept S w W) (hb:S b):Blk W b t cs:=(hk.2 b hb h.lt).trans h
theorem oc_one:(oC o.n o.epoch o.kind o.site o.client o.seq o.name o.size hA hn hc).all (·.oneCell')=true:=all_oneCell_toArray (by
 intro v hv
 simp only [List.mem_cons,List.not_mem_nil,or_false] at hv
 rcases hv with rfl|rfl|rfl|rfl|rfl|rfl|rfl|rfl|rfl<;>rfl)
end
section
variable {kind epoch site:Int} {o:OpC} {hA:O} {hn hc:Nat} {after since:Int} {pA:O} {pn pc:Nat} {tag:Int}
section
variable {ops:List OpC} {S:Nat->Prop}
section
variable (Q:Z) (a:Act) (w:World) (bx rb:Nat) (hfr:Fr 15 a [(1,bx),(2,rb)]) (hbx:Blk w bx 47 (cmdC kind epoch site o hA hn hc after since pA pn pc tag))
include Q a w bx rb hfr hbx
theorem own11_1 (hs:StrIs w S hA hn hc o.hs) (hoo:o.Ok) (hQ:∀ a' w' A' n' c',Fr 15 a' [(1,bx),(2,rb)]->Blk w' bx 47 (cmdC kind epoch site o A' n' c' after since pA pn pc tag)->StrIs w' (From w.heap.size) A' n' c' o.hs->Kept (fun q=>q≠bx) w w'->Below bx w w'->Q .normal a' w') :
 (part [1,0] (codeOf own11F)).wp prog Q a w:=by
 have hr:w.rangeAt bx 3 (oC o.n o.epoch o.kind o.site o.client o.seq o.name o.size hA hn hc).toList:=hbx.rangeAt_ 3 _ fun j v hv=>by
  match j with
  | 0|1|2|3|4|5|6|7|8=>exact hv
  | j+9=>simp at hv
 have hb2:Below w w (w.alloc (.cells (oC o.n o.epoch o.kind o.site o.client o.seq o.name o.size hA hn hc) 45)):=(Below.refl _ _).alloc (Nat.le_refl _) _
 have ho1:=ownOps_any (some ⟨w.heap.size,0,none⟩) 1 1 [o] _ (one_op (Blk.new w 45 (oC o.n o.epoch o.kind o.site o.client o.seq o.name o.size hA hn hc)) ((hs.below hb2).mono (S':=Any) fun _ _ _=>trivial) trivial) (by decide) (fun x hx=>by rw [List.mem_singleton] at hx;subst hx;exact hoo)
 obtain⟨HR,HO⟩:=J2 hr ho1
 have HX:=J (hbx.below hb2 hbx.lt)
 obtain⟨HLT,HB2,HQ⟩:=J3 hbx.lt hb2 hQ
 clear hr hb2 ho1 hs hoo hQ hbx
 refine gg hfr fun t=>?_
 go_wp2_with (refine wpList_load_mid rfl 45 (.tmp 3) rfl bx 3 rfl _ _ HR.out underlying45 rfl Try.sizeOp ?_)
 refine HO.out.mono ?_
 rintro e w3 ⟨A3,cap3,rfl,hi3,hb3⟩
 obtain⟨ad,c',xA,xn,xc,rfl,hab,hck,hop,hss⟩:=hi3.at_ (k:=0) (by omega)
 simp only [List.getElem?_cons_zero,Option.some.injEq] at hck
 subst hck
 obtain⟨e0,e1,e2,e3,e4,e5,e6,e7,e8⟩:=hop
 have ea:ad.add (0*9)=ad:=by unfold Addr.add;simp
 rw [ea] at e0 e1 e2 e3 e4 e5 e6 e7 e8 hab
 simp only [OpC.at_] at e0 e1 e2 e3 e4 e5 e6 e7 e8
 dsimp only
 have hx3:=HX.out.below hb3 HX.out.lt
 have hxn:Blk (w3.setCells bx 3 [.int .i64 o.n,.int .i64 o.epoch,.int .i64 o.kind,.int .i64 o.site,.int .i64 o.client,.int .i64 o.seq,.string o.name,.int .i64 o.size,.slice xA xn xc]) bx 47 (cmdC kind epoch site o xA xn xc after since pA pn pc tag):=by
  have:=(((((((((hx3.set_ 3 (.int .i64 o.n)).set_ 4 (.int .i64 o.epoch)).set_ 5 (.int .i64 o.kind)).set_ 6 (.int .i64 o.site)).set_ 7 (.int .i64 o.client)).set_ 8 (.int .i64 o.seq)).set_ 9 (.string o.name)).set_ 10 (.int .i64 o.size)).set_ 11 (.slice xA xn xc))
  simpa [World.setCells] using this
 have HXN:=J hxn
 have HT:=J (hx3.there_ 3 9 (by show 3+9<=16;omega))
 obtain⟨HS3,HB3⟩:=J2 hss hb3
 clear hx3 hxn hss hb3 hi3
 go_wp2_with (refine wpList_store_mid rfl 45 (.tmp 9) (.tmp 8) rfl bx 3 (oC o.n o.epoch o.kind o.site o.client o.seq o.name o.size xA xn xc) rfl rfl HT.out Try.sizeOp oc_one ?_)
 have hs0:(w.alloc (.cells (oC o.n o.epoch o.kind o.site o.client o.seq o.name o.size hA hn hc) 45)).heap.size=w.heap.size+1:=by simp
 have hlt:=HLT.out
 have hb:=HB2.out.trans (HB3.out.mono (by rw [hs0];omega))
 refine HQ.out _ _ xA xn xc ff HXN.out ((HS3.out.kept ((Kept.refl _ _).cells bx 3 (.inl fun h=>?_) _)).mono fun q _ h=>?_) ((Kept.of _ hb).cells bx 3 (.inl fun h=>h rfl) _) (below_setCells (Nat.le_refl _) (hb.mono (Nat.le_of_lt hlt)) 3 _)
 ·have:(w.alloc (.cells (oC o.n o.epoch o.kind o.site o.client o.seq o.name o.size hA hn hc) 45)).heap.size<=bx:=h
  omega
 ·have:(w.alloc (.cells (oC o.n o.epoch o.kind o.site o.client o.seq o.name o.size hA hn hc) 45)).heap.size<=q:=h
  show w.heap.size<=q
  omega
theorem own11_2 (ho:OpsIs w S pA pn pc ops) (hz:pn<=4294967296) (hok:∀ o∈ops,o.Ok) (hQ:∀ a' w' A' c',Fr 15 a' [(1,bx),(2,rb)]->Blk w' bx 47 (cmdC kind epoch site o hA hn hc after since A' pn c' tag)->OpsIs w' (From w.heap.size) A' pn c' ops->Kept (fun q=>q≠bx) w w'->Below bx w w'->Q .normal a' w') :
 (part [1,1,0] (codeOf own11F)).wp prog Q a w:=by
 have c14:=hbx.c1 14
 have HO:=J (ownOps_any pA pn pc ops w ho hz hok)
 obtain⟨HX,HQ⟩:=J2 hbx hQ
 clear ho hz hok hQ hbx
 refine gg hfr fun t=>?_
 go_wp2_with fail
 refine HO.out.mono ?_
 rintro e w3 ⟨A3,cap3,rfl,hi3,hb3⟩
 dsimp only
 have hx3:=HX.out.below hb3 HX.out.lt
 have d14:=hx3.c1 14
 have f14:=hx3.frozen 14
 have HXN:=J (hx3.set_ 14 (.slice A3 pn cap3))
 obtain⟨HI,HB3⟩:=J2 hi3 hb3
 clear hx3 hi3 hb3
 go_wp2_with fail
 have hlt:=HX.out.lt
 exact HQ.out _ _ A3 cap3 ff HXN.out (HI.out.kept ((Kept.refl _ _).set_ ⟨bx,14,none⟩ (.inl fun h=>by have:w.heap.size<=bx:=h;omega) _)) ((Kept.of _ HB3.out).set_ ⟨bx,14,none⟩ (.inl fun h=>h rfl) _) ((HB3.out.mono (Nat.le_of_lt hlt)).setCell (p:=⟨bx,14,none⟩) (Nat.le_refl _) _)
end
end
end
section
variable {S:Nat->Prop}
theorem two_cmds (w:World) (c:Array Value):∃ w1,w1=(w.alloc (.cells c 47)).alloc (.cells noCmd 47)/\w1.heap.size=w.heap.size+2/\Below w w w1/\Blk w1 w 47 c/\Blk w1 (w.heap.size+1) 47 noCmd:=by
 have k:=Blk.new (w.alloc (.cells c 47)) 47 noCmd
 rw [show (w.alloc (.cells c 47)).heap.size=w.heap.size+1 by simp] at k
 exact⟨_,rfl,by simp,((Below.refl _ _).alloc (Nat.le_refl _) _).alloc (by simp) _,(Blk.new w _ _).alloc _,k⟩
theorem own11_any (cells:Array Value) (c:CmdC) (w:World) (h:CmdIs w S cells c) (hok:c.Ok) (hsm:c.ops.length<=4294967296) :
 Calls prog 14 #[.agg cells] w fun e w'=>∃ cells',e=.returned (.agg cells')/\CmdIs w' (From w.heap.size) cells' c/\Below w w w':=by
 obtain⟨hA,hn,hc,pA,pn,pc,rfl,h1,h2⟩:=h
 have hpl:=h2.len
 obtain⟨w1,hw1,hs1,hb1,k1,k2⟩:=two_cmds w (cmdC c.kind c.epoch c.site c.op hA hn hc c.after c.since pA pn pc c.tag)
 obtain⟨HS1,HB1,HK1,HK2⟩:=J4 hs1 hb1 k1 k2
 have HP1:=J (h1.below hb1)
 have HP2:=J ((h2.mono (S':=fun q=>q<w) fun q hq _=>hq).below hb1)
 have HZ:=J (show pn<=4294967296 by omega)
 obtain⟨HOK,HW1⟩:=J2 hok hw1
 clear h1 h2 hsm hpl hb1 k1 k2 hok hs1 hw1
 go_enter func14,ntmps14
 conv=>arg 2;arg 2;change part [1] (codeOf own11F)
 go_wp2_with fail
 rw [<-HW1.out]
 have hs1:=HS1.out
 refine Wt ?_
 refine own11_1 (rb:=w.heap.size+1) _ _ w1 w.heap.size ff HK1.out HP1.out HOK.out.op fun a2 w2 A2 n2 c2 hf2 k2 hi2 hk2 hb2=>?_
 show (part [1,1] (codeOf own11F)).wp prog _ a2 w2
 have hq:∀ q,From w.heap.size q->q≠w.heap.size->w.heap.size<=q:=fun q h _=>h
 refine Wt ?_
 have hk2':Kept (fun q=>q<w) w1 w2:=hk2.mono fun q _ h=>(show q≠w.heap.size from Nat.ne_of_lt h)
 refine own11_2 _ a2 w2 w.heap.size (w.heap.size+1) hf2 k2 (HP2.out.kept hk2') HZ.out HOK.out.each fun a3 w3 A3 c3 hf3 k3 hi3 hk3 hb3=>?_
 show (part [1,1,1] (codeOf own11F)).wp prog _ a3 w3
 have hl2:=hk2.1
 have hl3:=hk3.1
 have kr:=(HK2.out.keptB hk2 (show w.heap.size+1≠w.heap.size by omega)).keptB hk3 (show w.heap.size+1≠w.heap.size by omega)
 refine own11_last _ a3 w3 w.heap.size (w.heap.size+1) hf3 k3 kr ?_
 rintro w4 rfl
 refine⟨_,rfl,⟨A2,n2,c2,A3,pn,c3,rfl,?_,?_⟩,?_⟩
 ·refine (((hi2.kept (hk3.mono fun q _ h=>?_)).kept ((Kept.refl _ _).cells (w.heap.size+1) 0 (.inl fun h=>?_) _)).mono fun q _ h=>?_)
  ·have:w1.heap.size<=q:=h
   show q≠w.heap.size
   omega
  ·have:w1.heap.size<=w.heap.size+1:=h
   omega
  ·have:w1.heap.size<=q:=h
   show w.heap.size<=q
   omega
 ·refine ((hi3.kept ((Kept.refl _ _).cells (w.heap.size+1) 0 (.inl fun h=>?_) _)).mono fun q _ h=>?_)
  ·have:w2.heap.size<=w.heap.size+1:=h
   omega
  ·have:w2.heap.size<=q:=h
   show w.heap.size<=q
   omega
 ·exact below_setCells (by omega) ((HB1.out.trans (hb2.mono (by omega))).trans hb3) 0 _
end
structure CmdX where
 cells:List Value
 c:CmdC
instance:Inhabited CmdX:=⟨⟨[],⟨0,0,0,⟨0,0,0,0,0,0,⟨#[]⟩,0,[]⟩,0,0,[],0⟩⟩⟩
def CmdsIs (w:World) (S:Nat->Prop) (A:O) (n:Nat) (xs:List CmdX):Prop:=
 Reads w w.heap.size 16 A n (xs.flatMap (·.cells))/\∀ x∈xs,x.cells.length=16/\CmdIs w S x.cells.toArray x.c/\x.c.Ok
theorem cmds_len:∀ (xs:List CmdX),(∀ x∈xs,x.cells.length=16)->(xs.flatMap (·.cells)).length=xs.length*16
 | [],_=>rfl
 | x::l,h=>by
  rw [List.flatMap_cons,List.length_append,cmds_len l fun y hy=>h y (List.mem_cons_of_mem _ hy),h x (List.mem_cons_self ..),List.length_cons]
  omega
theorem cmds_at:∀ (xs:List CmdX) (k:Nat) (x:CmdX) (j:Nat),(∀ x∈xs,x.cells.length=16)->xs[k]? = some x->j<16->(xs.flatMap (·.cells))[k*16+j]? = x.cells[j]?
 | [],k,x,j,_,h,_=>by simp at h
 | y::l,0,x,j,hl,h,hj=>by
  simp only [List.getElem?_cons_zero,Option.some.injEq] at h
  subst h
  rw [List.flatMap_cons,List.getElem?_append_left (by rw [hl _ (List.mem_cons_self ..)];omega),Nat.zero_mul,Nat.zero_add]
 | y::l,k+1,x,j,hl,h,hj=>by
  rw [List.flatMap_cons,List.getElem?_append_right (by rw [hl _ (List.mem_cons_self ..)];omega),hl _ (List.mem_cons_self ..),show (k+1)*16+j-16=k*16+j by omega]
  exact cmds_at l k x j (fun z hz=>hl z (List.mem_cons_of_mem _ hz)) (by simpa using h) hj
section
variable {w w':World} {S S':Nat->Prop} {A:O} {n:Nat} {xs:List CmdX}
section
variable {k:Nat}
section
variable (h:CmdsIs w S A n xs)
include h
theorem CmdsIs.below (hb:Below w w w'):CmdsIs w' S A n xs:=
 ⟨(h.1.below hb).more hb.size,fun x hx=>⟨(h.2 x hx).1,(h.2 x hx).2.1.below hb,(h.2 x hx).2.2⟩⟩
theorem CmdsIs.mono (hi:∀ b,b<w.heap.size->S b->S' b):CmdsIs w S' A n xs:=
 ⟨h.1,fun x hx=>⟨(h.2 x hx).1,(h.2 x hx).2.1.mono hi,(h.2 x hx).2.2⟩⟩
theorem CmdsIs.len:xs.length=n:=by
 have h1:=h.1.1
 rw [cmds_len xs fun x hx=>(h.2 x hx).1] at h1
 omega
theorem CmdsIs.at_ (hk:k<n):∃ ad x,A=some ad/\xs[k]? = some x/\(∀ j v,x.cells[j]? = some v->w.cell? ((ad.add (k*16)).add j)=some v)/\ad.block<w/\x.cells.length=16/\CmdIs w S x.cells.toArray x.c/\x.c.Ok:=by
 have hl:=h.len
 obtain⟨ad,rfl,hb,hc⟩:=h.1.2 (by omega)
 have hx:xs[k]? = some xs[k]:=List.getElem?_eq_getElem (by omega)
 obtain⟨h1,h2,h3⟩:=h.2 xs[k] (List.getElem_mem _)
 refine⟨ad,xs[k],rfl,hx,fun j v hv=>?_,hb,h1,h2,h3⟩
 rw [add_of_add]
 refine hc _ v ?_
 rw [cmds_at xs k _ j (fun x hx=>(h.2 x hx).1) hx (by have:=(List.getElem?_eq_some_iff.1 hv).1;omega)]
 exact hv
end
end
end
section
variable {α:Type} {l:List α}
theorem len16 (h:l.length=16):∃ c0 c1 c2 c3 c4 c5 c6 c7 c8 c9 c10 c11 c12 c13 c14 c15,l=[c0,c1,c2,c3,c4,c5,c6,c7,c8,c9,c10,c11,c12,c13,c14,c15]:=by
 match l,h with
 | [c0,c1,c2,c3,c4,c5,c6,c7,c8,c9,c10,c11,c12,c13,c14,c15],_=>exact⟨_,_,_,_,_,_,_,_,_,_,_,_,_,_,_,_,rfl⟩
theorem Try.cCmd:prog.cellsOf 47=16:=by kernel_rfl
theorem Try.bCmd:prog.bytesOf 47=168:=by kernel_rfl
end
section
variable {H:Type} {enc:TypeId×Value->H} {w:World} {cs:List Value}
theorem rd_cmd (hl:cs.length=16) (hr:Rd H enc prog w 47 cs):∃ c:CmdC,CmdIs w Any cs.toArray c/\c.Ok:=by
 obtain⟨_,hf⟩:=hr.struct_ underlying47
 obtain⟨c0,c1,c2,c3,c4,c5,c6,c7,c8,c9,c10,c11,c12,c13,c14,c15,rfl⟩:=len16 hl
 have h0:=fld hf 0 (ty:=3) (off:=0) (by rfl) Try.cInt
 have h1:=fld hf 1 (ty:=3) (off:=1) (by rfl) Try.cInt
 have h2:=fld hf 2 (ty:=3) (off:=2) (by rfl) Try.cInt
 have h3:=fld hf 3 (ty:=45) (off:=3) (by rfl) Try.cOp
 have h4:=fld hf 4 (ty:=3) (off:=12) (by rfl) Try.cInt
 have h5:=fld hf 5 (ty:=3) (off:=13) (by rfl) Try.cInt
 have h6:=fld hf 6 (ty:=28) (off:=14) (by rfl) Try.cOps
 have h7:=fld hf 7 (ty:=3) (off:=15) (by rfl) Try.cInt
 simp only [List.drop,List.take] at h0 h1 h2 h3 h4 h5 h6 h7
 obtain⟨kind,e0,k0⟩:=h0.i64 underlying3
 obtain⟨epoch,e1,k1⟩:=h1.i64 underlying3
 obtain⟨site,e2,k2⟩:=h2.i64 underlying3
 obtain⟨x,e3,k3,y3⟩:=rd_op rfl h3
 obtain⟨after,e4,k4⟩:=h4.i64 underlying3
 obtain⟨since,e5,k5⟩:=h5.i64 underlying3
 obtain⟨pA,pn,pc,ops,e6,k6,z6,y6⟩:=rd_ops h6
 obtain⟨tag,e7,k7⟩:=h7.i64 underlying3
 have hpl:=k6.len
 have hpc:pn<=pc:=by obtain⟨_,_,_,h,_⟩:=k6;exact h
 simp only [Opd.cells,OpC.at_,List.cons.injEq,and_true] at e0 e1 e2 e3 e4 e5 e6 e7
 obtain⟨q0,q1,q2,q3,q4,q5,q6,q7,q8⟩:=e3
 subst e0 e1 e2 e4 e5 e6 e7 q0 q1 q2 q3 q4 q5 q6 q7 q8
 exact⟨⟨kind,epoch,site,x.c,after,since,ops,tag⟩,⟨x.A,x.n,x.cap,pA,pn,pc,rfl,k3,k6⟩,⟨k0,k1,k2,y3,k4,k5,by show ops.length*96<=_;rw [hpl];omega,y6,k7⟩⟩
theorem rd_cmds (h:Rd H enc prog w 22 cs):∃ A n c xs,cs=[.slice A n c]/\CmdsIs w Any A n xs/\n<=c/\c*168<=140737488351232/\(A=none->c=0):=by
 obtain⟨A,n,c,xs,h1,h2,h3,h4,h5,h6,h7⟩:=h.list (α:=CmdX) (size:=16) underlying22 Try.cCmd Try.bCmd (by omega) (·.cells) (fun x=>x.cells.length=16/\CmdIs w Any x.cells.toArray x.c/\x.c.Ok) (fun cs' hl hr=>by
  obtain⟨m,hm,hok⟩:=rd_cmd hl hr
  exact⟨⟨cs',m⟩,rfl,hl,hm,hok⟩)
 exact⟨A,n,c,xs,h1,⟨h2,h7⟩,h4,h5,h6⟩
structure RchC where
 n:Int
 e:Int
 holes:List Int
structure RchC.Ok (r:RchC):Prop where
 n:I64 r.n
 e:I64 r.e
 holes:r.holes.length*8<=140737488351232
 each:∀ z∈r.holes,I64 z
def RchIs (w:World) (S:Nat->Prop) (cells:Array Value) (r:RchC):Prop:=∃ A k c,cells=#[.int .i64 r.n,.int .i64 r.e,.slice A k c]/\IntIs w S A k c r.holes
section
variable {α:Type} {l:List α}
theorem len3 (h:l.length=3):∃ c0 c1 c2,l=[c0,c1,c2]:=by
 match l,h with
 | [c0,c1,c2],_=>exact⟨_,_,_,rfl⟩
theorem rd_reach (hl:cs.length=3) (hr:Rd H enc prog w 32 cs):∃ r:RchC,RchIs w Any cs.toArray r/\r.Ok:=by
 obtain⟨_,hf⟩:=hr.struct_ underlying32
 obtain⟨c0,c1,c2,rfl⟩:=len3 hl
 have h0:=fld hf 0 (ty:=26) (off:=0) (by rfl) Try.cSpot
 have h1:=fld hf 1 (ty:=27) (off:=2) (by rfl) Try.cInts
 simp only [List.drop,List.take] at h0 h1
 obtain⟨aN,aE,e0,k0,k0'⟩:=rd_spot h0
 obtain⟨oA,on,oc,holes,e1,k1,z1,y1⟩:=rd_ints h1
 have hpl:=k1.len
 have hpc:on<=oc:=k1.2.1
 simp only [List.cons.injEq,and_true] at e0 e1
 obtain⟨rfl,rfl⟩:=e0
 subst e1
 exact⟨⟨aN,aE,holes⟩,⟨oA,on,oc,rfl,k1⟩,⟨k0,k0',by show holes.length*8<=_;rw [hpl];omega,y1⟩⟩
end
end
end Go.Proofs.Ytaipgdhdfpemcaa
