/- THE WALKS OF THE LANE, part 40. -/
import Derived.Test.YtaipgdhdfpemcaaF21
namespace Go.Proofs.Ytaipgdhdfpemcaa
set_option linter.all false
open Go.RowKit Go.Proofs.Try
set_option maxRecDepth 100000
set_option maxHeartbeats 4000000
section
variable {b:Bool}
theorem not_t (h:(!b)=true):b=false:=by
 cases b
 ·rfl
 ·cases h
theorem not_f (h:(!b)=false):b=true:=by
 cases b
 ·cases h
 ·rfl
end
section
variable {ck ce cs n epoch kind site client seq:Int} {name:ByteArray} {size:Int} {hA:O} {hn hc:Nat} {after since:Int} {pA:O} {pn pc:Nat} {tag:Int}
section
variable {p q s u:Bool} {hs:List ByteArray} {os:List OpC} {b:Nat} {S:Nat->Prop} {W w:World}
theorem g20 (a:Act) (v:Value) (hw:Below W W w) (hfr:Fr 272 a [(1,v)]) (Q:Z) (hQ:∀ a' w',bodyPost prog rgtF (fun x w'=>x=.returned (.bool false)/\Below W W w') .ret a' w'->Q .ret a' w'):(part [1,1,1,1,1,0,1,0,1,1,1,1,1,1,1,0,0,1,0] (codeOf rgtF)).wp prog Q a w:=by
 exact Y37
theorem g21 (v:Bool) (hv:(pn=0->v=true)/\∀ o,os[pn-1]? = some o->v=decide (o.epoch<=ce)) (a:Act) (hfr:Fr 272 a [(1,b),(2,false)]) (hb:Blk w b 47 (cmdCells 3 ce cs n epoch kind site client seq name size hA hn hc after since pA pn pc tag)) (ho:OpsIs w S pA pn pc os) (hn:pn<=4294967296) (hw:Below W W w) (Q:Z) (hQ:∀ a' w',bodyPost prog rgtF (fun x w'=>x=.returned (.bool v)/\Below W W w') .ret a' w'->Q .ret a' w') :
 (part [1,1,1,1,1,0,1,0,1,1,1,1,1,1,1,0,1] (codeOf rgtF)).wp prog Q a w:=by
 have c1:=hb.c1 1
 have c14:=hb.c1 14
 obtain⟨HQ,HO,HV,HW⟩:=J4 hQ ho hv hw
 clear hQ hb ho hv hw
 by_cases h0:pn=0
 ·obtain rfl:=HV.out.1 h0
  have e0:((pn:Int)==0)=true:=by rw [h0];rfl
  clear h0
  exact Y121
 ·obtain⟨ad,o,oA,on,oc,rfl,hab,hck,hop,hss⟩:=(HO.out).at_ (k:=pn-1) (by omega)
  have hvo:=HV.out.2 o hck
  have HVO:=J hvo
  obtain⟨k0,k1,k2,k3,k4,k5,k6,k7,k8⟩:=hop
  simp only [OpC.at_] at k0 k1 k2 k3 k4 k5 k6 k7 k8
  have e0:((pn:Int)==0)=false:=beq_eq_false_iff_ne.2 (by omega)
  have w1:wrap64 ((pn:Int)-1)=(pn:Int)-1:=wrap_id (by omega)
  have b3:(0:Int)<=(pn:Int)-1:=by omega
  have b4:(pn:Int)-1<(pn:Int):=by omega
  have t10:((pn:Int)-1).toNat=pn-1:=by omega
  clear h0 hck hab hss hvo k0 k2 k3 k4 k5 k6 k7 k8
  cases v
  all_goals
   have d1:=HVO.out.symm
   exact Y121
theorem rgtK3 (r v:Bool) (hv:(pn=0->v=true)/\∀ o,os[pn-1]? = some o->v=decide (o.epoch<=ce)) (hr:r=((p&&(q&&(decide (tag=0)&&(decide (pn<=8)&&(decide (since<=ce)&&rowB after since os)))))&&v)) (a:Act) (hfr:Fr 272 a [(1,b),(2,false),(3,p),(4,q)]) (hb:Blk w b 47 (cmdCells 3 ce cs n epoch kind site client seq name size hA hn hc after since pA pn pc tag)) (ho:OpsIs w S pA pn pc os) (hn:pn<=4294967296) (hok:∀ o∈os,o.Ok) (hw:Below W W w) :
 (part [1,1,1,1,1] (codeOf rgtF)).wp prog (bodyPost prog rgtF fun x w'=>x=.returned (.bool r)/\Below W W w') a w:=by
 have c0:=hb.c1 0
 obtain⟨HB,HO,HOK,HW,HR,HV⟩:=J6 hb ho hok hw hr hv
 clear hb ho hok hw hr hv
 refine gg hfr fun t=>?_
 conv=>arg 2;arg 1;arg 2;arg 2;arg 2;arg 3;arg 2;arg 3;arg 2;arg 3;arg 2;arg 2;change part [1,1,1,1,1,0,1,0,1,1,1,1,1,1,1,0] (codeOf rgtF)
 go_wp2_with fail
 refine w2 ?_
 refine w2 ?_
 refine g19 _ _ ff HB.out HO.out hn HOK.out fun a1 w1 hf1 hb1=>?_
 show (part [1,1,1,1,1,0,1,0,1,1,1,1,1,1,1,0,0,1] (codeOf rgtF)).wp prog _ a1 w1
 have hw1:=HW.out.trans (hb1.mono HW.out.size)
 refine wp_if (x:=part [1,1,1,1,1,0,1,0,1,1,1,1,1,1,1,0,0,1,0] (codeOf rgtF)) (y:=part [1,1,1,1,1,0,1,0,1,1,1,1,1,1,1,0,0,1,1] (codeOf rgtF)) (o:=.tmp 203) kr (eval_at hf1.2.2.2.2.1 rfl) (fun ht=>?_) fun ht=>?_
 ·have e:r=false:=by rw [HR.out,not_t ht];rfl
  subst e
  exact g20 a1 _ hw1 ⟨hf1.1,hf1.2.1,hf1.2.2.1,trivial⟩ _ fun _ _ h=>h
 have e:r=v:=by rw [HR.out,not_f ht];rfl
 subst e
 refine wp_nop kr ?_
 show (part [1,1,1,1,1,0,1,0,1,1,1,1,1,1,1,0,1] (codeOf rgtF)).wp prog _ a1 w1
 exact g21 r HV.out a1 ⟨hf1.1,hf1.2.1,hf1.2.2.1,hf1.2.2.2.1,trivial⟩ (HB.out.below hb1 HB.out.lt) (HO.out.below hb1) hn hw1 _ fun _ _ h=>h
theorem rgtK1 (r:Bool) (hr:r=((decide (n=0)&&(decide (epoch=0)&&(decide (site=0)&&!decide (kind=3))))&&(q&&(u&&(opB ⟨1,ce,kind,cs,client,seq,name,size,hs⟩&&shortB after since pn))))) (a:Act) (hfr:Fr 272 a [(1,b),(2,false),(3,p),(4,q),(5,s),(6,u)]) (hb:Blk w b 47 (cmdCells 1 ce cs n epoch kind site client seq name size hA hn hc after since pA pn pc tag)) (h:StrIs w S hA hn hc hs) (hz:hn<=140737488351232) (hw:Below W W w) :
 (part [1,1,1,1,1] (codeOf rgtF)).wp prog (bodyPost prog rgtF fun x w'=>x=.returned (.bool r)/\Below W W w') a w:=by
 obtain⟨c0,c1,c2,c3,c4,c5,c6,c7,c8,c9,c10,c11,c12,c13,c14,c15⟩:=hb.cs 0 16
 have hl:=hb.lt
 have hb0:Below w w (w.alloc (.cells (opCells n epoch kind site client seq name size hA hn hc) 45)):=(Below.refl _ _).alloc (Nat.le_refl _) _
 have HW0:=J (hw.trans (hb0.mono hw.size))
 have HE:=J hr
 have hb1:Below w w (w.alloc (.cells (opCells 1 ce kind cs client seq name size hA hn hc) 45)):=(Below.refl _ _).alloc (Nat.le_refl _) _
 have HW1:=J (hw.trans (hb1.mono hw.size))
 have HC:Hid (Calls prog 92 #[.agg (opCells 1 ce kind cs client seq name size hA hn hc)] (w.alloc (.cells (opCells 1 ce kind cs client seq name size hA hn hc) 45)) fun x w'=>x=.returned (.bool (opB ⟨1,ce,kind,cs,client,seq,name,size,hs⟩))/\Below (w.alloc (.cells (opCells 1 ce kind cs client seq name size hA hn hc) 45)).heap.size (w.alloc (.cells (opCells 1 ce kind cs client seq name size hA hn hc) 45)) w'):=J (rightOp_any ⟨1,ce,kind,cs,client,seq,name,size,hs⟩ _ (h.below hb1) hz)
 have HBK:=J (hb.below hb1 hl)
 clear hb0 hb1
 by_cases h1:n=0
 rotate_left
 ·obtain rfl:r=false:=by rw [HE.out];simp [h1]
  have e0:(n != 0)=true:=bne_iff_ne.2 h1
  clear HE hr hb h hw h1
  exact Y102
 subst h1
 by_cases h2:epoch=0
 rotate_left
 ·obtain rfl:r=false:=by rw [HE.out];simp [h2]
  have e1:(epoch != 0)=true:=bne_iff_ne.2 h2
  clear HE hr hb h hw h2
  exact Y102
 subst h2
 by_cases h3:site=0
 rotate_left
 ·obtain rfl:r=false:=by rw [HE.out];simp [h3]
  have e2:(site != 0)=true:=bne_iff_ne.2 h3
  clear HE hr hb h hw h3
  exact Y102
 subst h3
 by_cases h4:kind=3
 ·obtain rfl:r=false:=by rw [HE.out];simp [h4]
  have e3:(kind==3)=true:=beq_iff_eq.2 h4
  clear HE hr hb h hw h4
  exact Y102
 have he:r=(q&&(u&&(opB ⟨1,ce,kind,cs,client,seq,name,size,hs⟩&&shortB after since pn))):=by rw [HE.out];simp [h4]
 have xk:(kind==3)=false:=beq_eq_false_iff_ne.2 h4
 clear h4 HE hr hw
 have HE:=J he
 clear he
 cases q
 ·obtain rfl:r=false:=HE.out
  clear hb h
  refine gg hfr fun t=>?_
  exact Y43
 cases u
 ·obtain rfl:r=false:=HE.out
  clear hb h
  refine gg hfr fun t=>?_
  exact Y43
 have he:r=(opB ⟨1,ce,kind,cs,client,seq,name,size,hs⟩&&shortB after since pn):=HE.out
 clear HE
 have HE:=J he
 clear he
 refine gg hfr fun t=>?_
 go_wp2_with fail
 refine HC.out.mono ?_
 rintro e w1 ⟨rfl,hb1⟩
 have hk1:=HBK.out.below hb1 HBK.out.lt
 obtain⟨d12,d13,d14⟩:=hk1.cs 12 3
 have HW2:=J (HW1.out.trans (hb1.mono HW1.out.size))
 clear hb1 hk1
 dsimp only
 obtain⟨o,hoe⟩:∃ o,o=opB ⟨1,ce,kind,cs,client,seq,name,size,hs⟩:=⟨_,rfl⟩
 rw [<-hoe] at HE ⊢
 clear hoe
 cases o
 ·have he:r=false:=HE.out
  have HE2:=J he
  clear he
  go_wp2_with fail
  refine bodyPost_ret (results_tmp rfl _ _ _) rfl ?_
  exact⟨by rw [HE2.out];rfl,HW2.out⟩
 go_wp2_with fail
 all_goals
  refine bodyPost_ret (results_tmp rfl _ _ _) rfl ?_
  refine⟨congrArg (fun b=>Ending.returned (Value.bool b)) ?_,HW2.out⟩
  rw [HE.out,Bool.eq_iff_iff]
  simp [shortB]
  try omega
end
end
section
variable {v:Bool} {E N ce:Int} {os:List OpC} {pn:Nat} {S:Nat->Prop}
theorem rowFrom_ge:∀ (os:List OpC) (N E st:Int),rowFrom N E st os=true->∀ o∈os,E<=o.epoch
 | [],_,_,_,_,o,ho=>by cases ho
 | a::t,N,E,st,h,o,ho=>by
  simp only [rowFrom,Bool.and_eq_true] at h
  obtain⟨-,-,h1,h2⟩:=h
  have ha:E<=a.epoch:=by
   unfold stepB at h1
   split at h1
   ·simp only [decide_eq_true_eq] at h1;omega
   ·simp only [Bool.and_eq_true,decide_eq_true_eq] at h1;omega
  rcases List.mem_cons.1 ho with rfl|ho
  ·exact ha
  ·exact Int.le_trans ha (rowFrom_ge t _ _ _ h2 o ho)
theorem rowFrom_last:∀ (os:List OpC) (N E st:Int),rowFrom N E st os=true->∀ o∈os,∀ l,os[os.length-1]? = some l->o.epoch<=l.epoch
 | [],_,_,_,_,o,ho,_,_=>by cases ho
 | a::t,N,E,st,h,o,ho,l,hl=>by
  simp only [rowFrom,Bool.and_eq_true] at h
  obtain⟨-,-,-,h2⟩:=h
  cases t with
  | nil=>
   simp at hl ho
   subst hl
   subst ho
   exact Int.le_refl _
  | cons b t=>
   have hl':(b::t)[(b::t).length-1]? = some l:=by
    rw [<-hl]
    show (b::t)[t.length]? = (a::b::t)[t.length+1]?
    rw [List.getElem?_cons_succ]
   rcases List.mem_cons.1 ho with rfl|ho
   ·have hm:l∈b::t:=List.mem_of_getElem? hl'
    exact rowFrom_ge _ _ _ _ h2 l hm
   ·exact rowFrom_last (b::t) _ _ _ h2 o ho l hl'
theorem row_all (hl:os.length=pn) (h:rowB N E os=true) (hv:(pn=0->v=true)/\∀ o,os[pn-1]? = some o->v=decide (o.epoch<=ce)):(os.all fun o=>decide (o.epoch<=ce))=v:=by
 unfold rowB at h
 simp only [Bool.and_eq_true] at h
 by_cases h0:pn=0
 ·rw [hv.1 h0]
  obtain rfl:os=[]:=List.eq_nil_of_length_eq_zero (by omega)
  rfl
 ·have hlt:pn-1<os.length:=by omega
  have hg:os[pn-1]? = some os[pn-1]:=List.getElem?_eq_getElem hlt
  rw [hv.2 _ hg]
  have hm:os[pn-1]∈os:=List.getElem_mem _
  by_cases hle:os[pn-1].epoch<=ce
  ·rw [decide_eq_true hle,List.all_eq_true]
   intro o ho
   exact decide_eq_true (Int.le_trans (rowFrom_last os _ _ _ h.2 o ho _ (by rw [hl];exact hg)) hle)
  ·rw [decide_eq_false hle,List.all_eq_false]
   exact⟨_,hm,by simpa using hle⟩
theorem bb0:∀ a b c d:Bool,(a&&(b&&(c&&d)))=((a&&b)&&(c&&d)):=by decide
theorem bb1:∀ x b c d q:Bool,(d=true->q=true)->(x&&(b&&(c&&d)))=(x&&(q&&(c&&(d&&b)))):=by decide
theorem bb2:∀ a b c d:Bool,(a&&(b&&(c&&d)))=(d&&(c&&(a&&b))):=by decide
theorem bb3:∀ a b c d e f v w:Bool,(f=true->w=v)->((a&&(b&&(c&&(d&&(e&&f)))))&&w)=((a&&(c&&(b&&(d&&(e&&f)))))&&v):=by decide
theorem bb4:∀ a b c d:Bool,(a&&(b&&(c&&d)))=((a&&b)&&(d&&c)):=by decide
theorem bb5:∀ a b c d e:Bool,(a&&(b&&(c&&(d&&e))))=(a&&(d&&(c&&(b&&e)))):=by decide
theorem right11_any (cells:Array Value) (c:CmdC) (w:World) (h:CmdIs w S cells c) (hok:c.Ok) (hn2:c.ops.length<=4294967296) :
 Calls prog 47 #[.agg cells] w fun x w'=>x=.returned (.bool (cmdB c))/\Below w w w':=by
 obtain⟨hA,hn,hc,pA,pn,pc,rfl,h1,h2⟩:=h
 obtain⟨ck,ce,cs,o,after,since,ops,tag⟩:=c
 obtain⟨n,epoch,kind,site,client,seq,name,size,hs⟩:=o
 simp only at h1 h2 ⊢
 obtain⟨e1,e2,e3,e4,e5,e6,e7,e8,e9⟩:=hok
 simp only at e1 e2 e3 e4 e5 e6 e7 e8 e9
 have l1:=h1.len
 have l2:=h2.len
 have hz:hn<=140737488351232:=by have:=e4.hs;simp only at this;omega
 have hz2:pn<=4294967296:=by simp only at hn2;omega
 obtain⟨r,hr⟩:∃ r,r=cmdB ⟨ck,ce,cs,⟨n,epoch,kind,site,client,seq,name,size,hs⟩,after,since,ops,tag⟩:=⟨_,rfl⟩
 rw [<-hr]
 have hb0:Below w w (w.alloc (.cells (cmdCells ck ce cs n epoch kind site client seq name size hA hn hc after since pA pn pc tag) 47)):=(Below.refl _ _).alloc (Nat.le_refl _) _
 have hbk:=Blk.new w 47 (cmdCells ck ce cs n epoch kind site client seq name size hA hn hc after since pA pn pc tag)
 obtain⟨HB,HK⟩:=J2 hb0 hbk
 have HS:=J (h1.below hb0)
 have HO:=J (h2.below hb0)
 have HR:=J hr
 clear h1 h2 hb0 hbk hr e1 e2 e3 e4 e5 e6 e7 e9 hn2
 go_enter func47,ntmps47
 conv=>arg 2;arg 2;change part [1] (codeOf rgtF)
 go_wp2_with fail
 refine Ytaipgdhdfpemcaa.w2 ?_
 refine rgt1 _ _ ff HK.out fun a1 w1 hf1 hb1=>?_
 show (part [1,1] (codeOf rgtF)).wp prog _ a1 w1
 refine Ytaipgdhdfpemcaa.w2 ?_
 have hk1:=HK.out.below hb1 HK.out.lt
 refine rgt2 _ a1 hf1 hk1 fun a2 w2 hf2 hb2=>?_
 show (part [1,1,1] (codeOf rgtF)).wp prog _ a2 w2
 refine Ytaipgdhdfpemcaa.w2 ?_
 have hk2:=hk1.below hb2 hk1.lt
 refine rgt3 _ a2 hf2 hk2 fun a3 w3 hf3 hb3=>?_
 show (part [1,1,1,1] (codeOf rgtF)).wp prog _ a3 w3
 refine Ytaipgdhdfpemcaa.w2 ?_
 have hk3:=hk2.below hb3 hk2.lt
 refine rgt4 _ a3 hf3 hk3 fun a4 w4 hf4 hb4=>?_
 show (part [1,1,1,1,1] (codeOf rgtF)).wp prog _ a4 w4
 have hk4:=hk3.below hb4 hk3.lt
 have hs12:=Nat.le_trans hb1.size hb2.size
 have hbw4:=((hb1.trans (hb2.mono hb1.size)).trans (hb3.mono hs12)).trans (hb4.mono (Nat.le_trans hs12 hb3.size))
 have hw4:=HB.out.trans (hbw4.mono HB.out.size)
 by_cases h0:ck=0
 ·subst h0
  refine rgtK0 r ?_ a4 hf4 hk4 hw4
  rw [HR.out,<-bb0,<-l1,<-l2]
  rfl
 by_cases h1:ck=1
 ·subst h1
  refine rgtK1 (hs:=hs) r ?_ a4 hf4 hk4 (HS.out.below hbw4) hz hw4
  rw [HR.out,<-l2]
  refine bb1 _ _ _ _ _ fun ho=>?_
  unfold opB headB at ho
  simp only [Bool.and_eq_true] at ho
  exact ho.1.2.2
 by_cases h2:ck=2
 ·subst h2
  refine rgtK2 r ?_ a4 hf4 hk4 hw4
  rw [HR.out,<-bb2,<-l1,<-l2]
  rfl
 by_cases h3:ck=3
 ·subst h3
  obtain⟨v,hv⟩:∃ v:Bool,(pn=0->v=true)/\∀ o,ops[pn-1]? = some o->v=decide (o.epoch<=ce):=by
   rcases Nat.eq_zero_or_pos pn with hp|hp
   ·refine⟨true,fun _=>rfl,fun o ho=>?_⟩
    have:ops[pn-1]? = none:=List.getElem?_eq_none (by omega)
    rw [this] at ho
    cases ho
   ·have hg:ops[pn-1]? = some (ops[pn-1]'(by omega)):=List.getElem?_eq_getElem (by omega)
    refine⟨decide ((ops[pn-1]'(by omega)).epoch<=ce),fun h=>by omega,fun o ho=>?_⟩
    rw [hg] at ho
    injection ho with ho
    rw [ho]
  refine rgtK3 r v hv ?_ a4 ⟨hf4.1,hf4.2.1,hf4.2.2.1,hf4.2.2.2.1,hf4.2.2.2.2.1,hf4.2.2.2.2.2.1,trivial⟩ hk4 (HO.out.below hbw4) hz2 e8 hw4
  rw [HR.out,<-l1]
  have e:decide (pn<=8)=decide (ops.length<=8):=by rw [l2]
  rw [e]
  exact bb3 _ _ _ _ _ _ _ _ fun hrw=>row_all l2 hrw hv
 by_cases h4:ck=4
 ·subst h4
  refine rgtK4 r ?_ a4 hf4 hk4 hw4
  rw [HR.out,<-bb4,<-l1,<-l2]
  rfl
 by_cases h5:ck=5
 ·subst h5
  refine rgtK5 r ?_ a4 hf4 hk4 hw4
  rw [HR.out,<-bb5,<-l1,<-l2]
  rfl
 exact rgtKO r (by rw [HR.out];simp [cmdB,h0,h1,h2,h3,h4,h5]) (beq_eq_false_iff_ne.2 h0) (beq_eq_false_iff_ne.2 h1) (beq_eq_false_iff_ne.2 h2) (beq_eq_false_iff_ne.2 h3) (beq_eq_false_iff_ne.2 h4) (beq_eq_false_iff_ne.2 h5) a4 ⟨hf4.1,hf4.2.1,hf4.2.2.1,hf4.2.2.2.1,trivial⟩ hk4 hw4
end
end Go.Proofs.Ytaipgdhdfpemcaa
