/- THE WALKS OF THE LANE, part 21. -/
import Derived.Test.YtaipgdhdfpemcaaF16
import Derived.Test.YtaipgdhdfpemcaaF20
namespace Go.Proofs.Ytaipgdhdfpemcaa
set_option linter.all false
open Go.RowKit Go.Proofs.Try
set_option maxRecDepth 100000
set_option maxHeartbeats 4000000
section
variable {ck ce cs n epoch kind site client seq:Int} {name:ByteArray} {size:Int} {hA:O} {hn hc:Nat} {after since:Int} {pA:O} {pn pc:Nat} {tag:Int}
section
variable {p q s x:Bool} {l os:List OpC} {b k:Nat} {S:Nat->Prop} {o:OpC} {W w:World}
theorem chkZ (r:Bool) (a:Act) (hfr:Fr 250 a [(2,.int .i64 0),(6,r)]) (hw:Below W W w):(part [1,1,1,1,1,1] (codeOf chkF)).wp prog (bodyPost prog chkF fun x w'=>x=.returned (.int .i64 (errB r))/\Below W W w') a w:=by
 cases r
 all_goals
  exact Y163
theorem chkK5 (r:Bool) (hr:r=(p&&(decide (pn=0)&&(decide (tag=0)&&(reignB ce cs&&(decide (1<=after)&&(decide (after<=80)&&(decide (1<=since)&&decide (since<=ce))))))))) (a:Act) (hfr:Fr 250 a [(1,b),(2,.int .i64 0),(3,p),(4,q),(5,s)]) (hb:Blk w b 47 (cmdCells 5 ce cs n epoch kind site client seq name size hA hn hc after since pA pn pc tag)) (hw:Below W W w) :
 (part [1,1,1,1] (codeOf chkF)).wp prog (bodyPost prog chkF fun x w'=>x=.returned (.int .i64 (errB r))/\Below W W w') a w:=by
 obtain⟨c0,c1,c2⟩:=hb.cs 0 3
 obtain⟨c12,c13,c14,c15⟩:=hb.cs 12 4
 obtain⟨HW,HE⟩:=J2 hw hr
 clear hb hw hr
 cases p
 ·obtain rfl:r=false:=HE.out
  exact Y18
 have he:r=(decide (pn=0)&&(decide (tag=0)&&(reignB ce cs&&(decide (1<=after)&&(decide (after<=80)&&(decide (1<=since)&&decide (since<=ce))))))):=HE.out
 clear HE
 by_cases hp:pn=0
 rotate_left
 ·obtain rfl:r=false:=by rw [he];simp [hp]
  have ehp:((pn:Int)==0)=false:=beq_eq_false_iff_ne.2 (by omega)
  clear hp he
  exact Y18
 have he2:r=(decide (tag=0)&&(reignB ce cs&&(decide (1<=after)&&(decide (after<=80)&&(decide (1<=since)&&decide (since<=ce)))))):=by rw [he];simp [hp]
 have ehp:((pn:Int)==0)=true:=by rw [hp];rfl
 clear hp he
 have he:=he2
 clear he2
 by_cases ht:tag=0
 rotate_left
 ·obtain rfl:r=false:=by rw [he];simp [ht]
  have eht:(tag==0)=false:=beq_eq_false_iff_ne.2 ht
  clear ht he
  exact Y18
 have he2:r=(reignB ce cs&&(decide (1<=after)&&(decide (after<=80)&&(decide (1<=since)&&decide (since<=ce))))):=by rw [he];simp [ht]
 have eht:(tag==0)=true:=by rw [ht];rfl
 clear ht he
 have he:=he2
 clear he2
 cases hv:reignB ce cs
 ·obtain rfl:r=false:=by rw [he,hv];rfl
  clear he
  exact Y233
 ·rw [hv,Bool.true_and] at he
  have HE:=J he
  clear he
  refine gg hfr fun t=>?_
  go_wp2_with fail
  refine (reigned_any _ _ _).mono ?_
  rintro e w1 ⟨rfl,rfl⟩
  rw [hv]
  dsimp only
  go_wp2_with fail
  all_goals
   refine bodyPost_ret (results_tmp rfl _ _ _) rfl ?_
   refine⟨congrArg (fun z=>Ending.returned (Value.int .i64 z)) ?_,HW.out⟩
   have he:=HE.out
   try simp only [Bool.not_eq_false',Bool.not_eq_true',decide_eq_true_eq,decide_eq_false_iff_not] at *
   first
    | (have hx : r = true := by (rw [he]; simp <;> omega)
       rw [hx];rfl)
    | (have hx : r = false := by (rw [he]; simp <;> omega)
       rw [hx];rfl)
theorem k3a (Q:Z) (a:Act) (hfr:Fr 250 a [(1,b),(2,.int .i64 0),(3,p)]) (hb:Blk w b 47 (cmdCells 3 ce cs n epoch kind site client seq name size hA hn hc after since pA pn pc tag)) (ho:OpsIs w S pA pn pc os) (hn:pn<=4294967296) (hok:∀ o∈os,o.Ok) (hQ:∀ a' w',Fr 250 a' [(1,b),(2,.int .i64 0),(6,.bool (p&&(decide (tag=0)&&(reignB ce cs&&(decide (pn<=8)&&(decide (since<=ce)&&rowB after since os))))))]->Below w w w'->Q .normal a' w') :
 (part [1,1,1,1,1,0,1,0,1,1,1,1,1,1,1,0,0] (codeOf chkF)).wp prog Q a w:=by
 obtain⟨c1,c2⟩:=hb.cs 1 2
 obtain⟨c12,c13,c14,c15⟩:=hb.cs 12 4
 have HC:=J (row_any after since w ho hn hok)
 have HQ:=J hQ
 clear hQ hb ho hok
 cases p
 ·skip
  exact Y83
 by_cases ht:tag=0
 rotate_left
 ·have et:(tag==0)=false:=beq_eq_false_iff_ne.2 ht
  have HT:=J (decide_eq_false ht)
  clear ht
  refine gg hfr fun t=>?_
  go_wp2_with fail
  refine HQ.out _ _ ⟨rfl,rfl,rfl,rfl,?_,trivial⟩ (Below.refl _ _)
  refine congrArg Value.bool ?_
  rw [HT.out];rfl
 have et:(tag==0)=true:=by rw [ht];rfl
 have HT:=J (decide_eq_true ht)
 clear ht
 refine gg hfr fun t=>?_
 go_wp2_with fail
 refine (reigned_any _ _ _).mono ?_
 rintro e w1 ⟨rfl,rfl⟩
 cases hv:reignB ce cs
 ·dsimp only
  go_wp2_with fail
  refine HQ.out _ _ ⟨rfl,rfl,rfl,rfl,?_,trivial⟩ (Below.refl _ _)
  refine congrArg Value.bool ?_
  rw [HT.out,hv];rfl
 dsimp only
 go_wp2_with fail
 ·refine HC.out.mono ?_
  rintro e w1 ⟨rfl,hb1⟩
  have HB1:=J hb1
  clear hb1
  dsimp only
  go_wp2_with fail
  rename_i h1 h2
  refine HQ.out _ _ ⟨rfl,rfl,rfl,rfl,?_,trivial⟩ HB1.out
  refine congrArg Value.bool ?_
  have h3:pn<=8:=by omega
  rw [HT.out,hv,decide_eq_true h3,decide_eq_true h2]
  rfl
 all_goals
  refine HQ.out _ _ ⟨rfl,rfl,rfl,rfl,?_,trivial⟩ (Below.refl _ _)
  refine congrArg Value.bool ?_
  rw [HT.out,hv,Bool.eq_iff_iff]
  simp
  try omega
theorem allE_next {ce:Int} (h:l[k]? = some o):(l.take (k+1)).all (fun o=>decide (o.epoch<=ce))=((l.take k).all (fun o=>decide (o.epoch<=ce))&&decide (o.epoch<=ce)):=by
 rw [List.take_add_one,h]
 simp
theorem k3b (Q:Z) (a:Act) (hfr:Fr 250 a [(1,b),(2,.int .i64 0),(6,x)]) (hb:Blk w b 47 (cmdCells 3 ce cs n epoch kind site client seq name size hA hn hc after since pA pn pc tag)) (ho:OpsIs w S pA pn pc os) (hn:pn<=4294967296) (hQ:∀ a' w',Fr 250 a' [(2,.int .i64 0),(6,.bool (x&&os.all fun o=>decide (o.epoch<=ce)))]->Below w w w'->Q .normal a' w') :
 (part [1,1,1,1,1,0,1,0,1,1,1,1,1,1,1,0,1] (codeOf chkF)).wp prog Q a w:=by
 have c14:=hb.c1 14
 have hlen:=ho.len
 obtain⟨HO,HK,HL,HQ⟩:=J4 ho hb hlen hQ
 clear hQ hb ho hlen
 refine gg hfr fun t=>?_
 go_wp2_with fail
 go_loopw [6,174] (fun v i wr=>∃ k:Nat,k<=pn/\i=.int .i64 k/\v=.bool (x&&(os.take k).all fun o=>decide (o.epoch<=ce))/\Below w w wr) (fun _ i _=>pn-(intOf i).toNat)
 case atStart=>exact⟨0,by omega,rfl,by simp,Below.refl _ _⟩
 case round=>
  obtain⟨k,hk,rfl,rfl,hb⟩:=hrel
  have HB:=J hb
  have c1:=(HK.out.below hb HK.out.lt).cell 1
  simp at c1
  clear hb
  rcases Nat.lt_or_ge k pn with hk1|hk1
  ·obtain⟨ad,o,oA,on,oc,rfl,hab,hck,hop,hss⟩:=(HO.out.below HB.out).at_ hk1
   have HN:=J (allE_next (ce:=ce) hck)
   obtain⟨q,hq⟩:∃ q,q=(x&&(os.take k).all fun o=>decide (o.epoch<=ce)):=⟨_,rfl⟩
   have HQ2:=J hq
   rw [<-hq]
   obtain⟨k0,k1,k2,k3,k4,k5,k6,k7,k8⟩:=hop
   simp only [OpC.at_] at k0 k1 k2 k3 k4 k5 k6 k7 k8
   have b1:(0:Int)<=(k:Int):=by omega
   have b2:(k:Int)<(pn:Int):=by omega
   have HB2:=J (HB.out.alloc HB.out.size (.cells (opCells o.n o.epoch o.kind o.site o.client o.seq o.name o.size oA on oc) 45))
   have c1b:=(HK.out.below HB2.out HK.out.lt).cell 1
   simp at c1b
   clear hq hck hss hab
   cases q
   all_goals
    go_wp2_with fail
    go_roundw
    case rel=>exact⟨k+1,by omega,by go_num,by rw [HN.out,<-Bool.and_assoc,<-HQ2.out];rfl,HB2.out⟩
    case measure=>simp [intOf];omega
  ·obtain rfl:pn=k:=by omega
   have hall:(os.take pn).all (fun o=>decide (o.epoch<=ce))=os.all fun o=>decide (o.epoch<=ce):=by rw [List.take_of_length_le (by rw [HL.out];exact Nat.le_refl _)]
   rw [hall]
   go_wp2_with fail
   exact HQ.out _ _ ff HB.out
theorem chkK3 (r:Bool) (hr:r=((p&&(decide (tag=0)&&(reignB ce cs&&(decide (pn<=8)&&(decide (since<=ce)&&rowB after since os)))))&&os.all fun o=>decide (o.epoch<=ce))) (a:Act) (hfr:Fr 250 a [(1,b),(2,.int .i64 0),(3,p)]) (hb:Blk w b 47 (cmdCells 3 ce cs n epoch kind site client seq name size hA hn hc after since pA pn pc tag)) (ho:OpsIs w S pA pn pc os) (hn:pn<=4294967296) (hok:∀ o∈os,o.Ok) (hw:Below W W w) :
 (part [1,1,1,1] (codeOf chkF)).wp prog (bodyPost prog chkF fun x w'=>x=.returned (.int .i64 (errB r))/\Below W W w') a w:=by
 have c0:=hb.c1 0
 obtain⟨HB,HO,HOK,HW,HR⟩:=J5 hb ho hok hw hr
 clear hb ho hok hw hr
 refine gg hfr fun t=>?_
 conv=>arg 2;arg 2;arg 2;change part [1,1,1,1,1,1] (codeOf chkF)
 conv=>arg 2;arg 2;arg 1;arg 2;arg 2;arg 2;arg 3;arg 2;arg 3;arg 2;arg 3;arg 2;arg 2;change part [1,1,1,1,1,0,1,0,1,1,1,1,1,1,1,0] (codeOf chkF)
 go_wp2_with fail
 refine Ytaipgdhdfpemcaa.w2 ?_
 refine k3a _ _ ff HB.out HO.out hn HOK.out fun a1 w1 hf1 hb1=>?_
 show (part [1,1,1,1,1,0,1,0,1,1,1,1,1,1,1,0,1] (codeOf chkF)).wp prog _ a1 w1
 refine k3b _ a1 hf1 (HB.out.below hb1 HB.out.lt) (HO.out.below hb1) hn fun a2 w2 hf2 hb2=>?_
 rw [<-HR.out] at hf2
 have HF2:=J hf2
 have HZ:=J ((HW.out.trans (hb1.mono HW.out.size)).trans (hb2.mono (Nat.le_trans HW.out.size hb1.size)))
 clear hf1 hb1 hf2 hb2
 go_wp2_with fail
 exact chkZ r a2 HF2.out HZ.out
end
end
section
variable {ck ce cs n epoch kind site client seq:Int} {name:ByteArray} {size:Int} {hA:O} {hn hc:Nat} {after since:Int} {pA:O} {pn pc:Nat} {tag:Int}
section
variable {K:Act->World->Prop} {p q x:Bool} {post:Ending->World->Prop} {hs:List ByteArray} {b g:Nat} {S:Nat->Prop} {t:TypeId} {a0 a1 a2 a3 a4 a5 a6 a7 a8:Value} {W w:World}
theorem k1a (Q:Z) (a:Act) (hfr:Fr 250 a [(1,b),(2,.int .i64 0),(4,q)]) (hb:Blk w b 47 (cmdCells 1 ce cs n epoch kind site client seq name size hA hn hc after since pA pn pc tag)) (hQ:∀ a' w',Fr 250 a' [(1,b),(2,.int .i64 0),(4,q),(7,(w:Nat))]->Blk w' w 45 (opCells n epoch kind site client seq name size hA hn hc)->Below w w w'->Q .normal a' w') :
 (part [1,1,1,1,1,0,1,0,1,1,1,0,0] (codeOf chkF)).wp prog Q a w:=by
 obtain⟨c3,c4,c5,c6,c7,c8,c9,c10,c11⟩:=hb.cs 3 9
 have HQ:=J hQ
 have HP:=J (Blk.new w 45 (opCells n epoch kind site client seq name size hA hn hc))
 have HB:=J ((Below.refl w.heap.size w).alloc (Nat.le_refl _) (.cells (opCells n epoch kind site client seq name size hA hn hc) 45))
 clear hQ hb
 refine gg hfr fun t=>?_
 go_wp2_with fail
 exact HQ.out _ _ ff HP.out HB.out
theorem k1b (Q:Z) (a:Act) (hfr:Fr 250 a [(1,b),(2,.int .i64 0),(4,q),(7,g)]) (hg:Blk w g 45 (opCells n epoch kind site client seq name size hA hn hc)) (hQ:∀ a',Fr 250 a' [(1,b),(2,.int .i64 0),(4,q),(7,g),(8,(decide (n=0)&&(decide (epoch=0)&&(decide (site=0)&&!decide (kind=3)))))]->Q .normal a' w) :
 (part [1,1,1,1,1,0,1,0,1,1,1,0,1,0] (codeOf chkF)).wp prog Q a w:=by
 obtain⟨c0,c1,c2,c3⟩:=hg.cs 0 4
 have HQ:=J hQ
 clear hQ hg
 refine gg hfr fun t=>?_
 go_wp2_with fail
 all_goals
  refine HQ.out _ ⟨rfl,rfl,rfl,rfl,rfl,rfl,?_,trivial⟩
  refine congrArg Value.bool ?_
  rw [Bool.eq_iff_iff]
  simp
  try omega
theorem set3_ (h:Blk W g t #[a0,a1,a2,a3,a4,a5,a6,a7,a8]) (x y z:Value):Blk (((W.setCell ⟨g,0,none⟩ x).setCell ⟨g,1,none⟩ y).setCell ⟨g,3,none⟩ z) g t #[x,y,a2,z,a4,a5,a6,a7,a8]:=((h.set_ 0 x).set_ 1 y).set_ 3 z
theorem k1c (a:Act) (hfr:Fr 250 a [(1,b),(2,.int .i64 0),(4,q),(7,g),(8,x)]) (hg:Blk w g 45 (opCells n epoch kind site client seq name size hA hn hc)) (hb:Blk w b 47 (cmdCells 1 ce cs n epoch kind site client seq name size hA hn hc after since pA pn pc tag)) (hbg:b<g) (hgS:¬ S g) (hB:W.heap.size<=g) (hw:Below W W w) (h:StrIs w S hA hn hc hs) (hz:hn<=140737488351232) (hK:∀ a' w',Fr 250 a' [(2,.int .i64 0),(6,.bool (x&&(q&&(tagB tag&&opB ⟨1,ce,kind,cs,client,seq,name,size,hs⟩))))]->Below W W w'->K a' w') :
 (part [1,1,1,1,1,0,1,0,1,1,1,0,1,1] (codeOf chkF)).wp prog (Exit.inBlock 0 (Exit.then K (bodyPost prog chkF post))) a w:=by
 obtain⟨c1,c2⟩:=hb.cs 1 2
 have c15:=hb.c1 15
 obtain⟨d0,d1⟩:=hg.cs 0 2
 have d3:=hg.c1 3
 have f0:w.frozen? ⟨g,0,none⟩=false:=hg.frozen 0
 have f1:w.frozen? ⟨g,1,none⟩=false:=hg.frozen 1
 have f3:w.frozen? ⟨g,3,none⟩=false:=hg.frozen 3
 obtain⟨HK,HB,HGS,HGB⟩:=J4 hK hb hgS hB
 have n1:¬ b=g:=by omega
 have n2:¬ g=b:=by omega
 obtain⟨HP,HW,HS⟩:=J3 hg hw h
 clear hK hb hg hB hbg hgS hw h
 refine gg hfr fun t=>?_
 go_wp2_with fail
 go_region
 obtain⟨w1,hw1⟩:∃ w1,w1=(((w.setCell ⟨g,0,none⟩ (.int .i64 1)).setCell ⟨g,1,none⟩ (.int .i64 ce)).setCell ⟨g,3,none⟩ (.int .i64 cs)).drew:=⟨_,rfl⟩
 have hp1:Blk w1 g 45 (opCells 1 ce kind cs client seq name size hA hn hc):=by rw [hw1];exact set3_ HP.out _ _ _
 have hk1:Kept (fun y=>y≠g) w w1:=by
  rw [hw1]
  exact⟨by simp,fun b' h1 _=>((Below.heap_setCell _ _ _ b' h1).trans (Below.heap_setCell _ _ _ b' h1)).trans (Below.heap_setCell _ _ _ b' h1)⟩
 have hb1:Below W W w1:=by
  rw [hw1]
  exact (((HW.out.setCell HGB.out _).setCell HGB.out _).setCell HGB.out _).drew
 rw [<-hw1]
 have hkb:Blk w1 b 47 (cmdCells 1 ce cs n epoch kind site client seq name size hA hn hc after since pA pn pc tag):=(hk1.2 b n1 HB.out.lt).trans HB.out
 have d15:=hkb.c1 15
 obtain⟨p0,p1,p2,p3,p4,p5,p6,p7,p8⟩:=hp1.cs 0 9
 have hsx:StrIs w1 S hA hn hc hs:=HS.out.kept ⟨hk1.1,fun y h1 h2=>hk1.2 y (by rintro rfl;exact HGS.out h1) h2⟩
 have hce:Calls prog 84 #[.agg (opCells 1 ce kind cs client seq name size hA hn hc)] w1 fun x w'=>x=.returned (.int .i64 (errB (opB ⟨1,ce,kind,cs,client,seq,name,size,hs⟩)))/\Below w1 w1 w':=checkOp_any ⟨1,ce,kind,cs,client,seq,name,size,hs⟩ w1 hsx hz
 obtain⟨o,hoe⟩:∃ o,o=opB ⟨1,ce,kind,cs,client,seq,name,size,hs⟩:=⟨_,rfl⟩
 rw [<-hoe] at hce HK
 obtain⟨HC,HB1,HOE⟩:=J3 hce hb1 hoe
 clear hsx hce hk1 hb1 hw1 hkb hp1 c1 c2 c15 d0 d1 d3 f0 f1 f3 hoe
 cases x
 ·go_wp2_with fail
  exact HK.out _ _ ff HB1.out
 cases q
 ·go_wp2_with fail
  exact HK.out _ _ ff HB1.out
 go_wp2_with fail
 refine (tagged_any _ _).mono ?_
 rintro e w2 ⟨rfl,rfl⟩
 cases hv:tagB tag
 ·dsimp only
  go_wp2_with fail
  exact HK.out _ _ ⟨rfl,rfl,rfl,by rw [hv];rfl,trivial⟩ HB1.out
 dsimp only
 go_wp2_with fail
 refine HC.out.mono ?_
 rintro e w3 ⟨rfl,hb3⟩
 have HB3:=J (HB1.out.trans (hb3.mono HB1.out.size))
 clear hb3
 cases o
 all_goals
  dsimp only [errB]
  go_wp2_with fail
  exact HK.out _ _ ⟨rfl,rfl,rfl,by rw [hv];rfl,trivial⟩ HB3.out
theorem chkK1 (r:Bool) (hr:r=((decide (n=0)&&(decide (epoch=0)&&(decide (site=0)&&!decide (kind=3))))&&(q&&(tagB tag&&opB ⟨1,ce,kind,cs,client,seq,name,size,hs⟩)))) (a:Act) (hfr:Fr 250 a [(1,b),(2,.int .i64 0),(3,p),(4,q)]) (hb:Blk w b 47 (cmdCells 1 ce cs n epoch kind site client seq name size hA hn hc after since pA pn pc tag)) (h:StrIs w S hA hn hc hs) (hz:hn<=140737488351232) (hw:Below W W w) :
 (part [1,1,1,1] (codeOf chkF)).wp prog (bodyPost prog chkF fun x w'=>x=.returned (.int .i64 (errB r))/\Below W W w') a w:=by
 have c0:=hb.c1 0
 have HB:=J hb
 have HS:=J (h.mono (S':=fun b=>S b/\b<w) fun b hb hs=>⟨hs,hb⟩)
 obtain⟨HW,HR⟩:=J2 hw hr
 clear hb h hw hr
 refine gg hfr fun t=>?_
 conv=>arg 2;arg 2;arg 2;change part [1,1,1,1,1,1] (codeOf chkF)
 conv=>arg 2;arg 2;arg 1;arg 2;arg 2;arg 2;arg 3;arg 2;arg 2;change part [1,1,1,1,1,0,1,0,1,1,1,0] (codeOf chkF)
 go_wp2_with fail
 refine w2 ?_
 refine k1a _ _ ff HB.out fun a1 w1 hf1 hp1 hb1=>?_
 show (part [1,1,1,1,1,0,1,0,1,1,1,0,1] (codeOf chkF)).wp prog _ a1 w1
 refine w2 ?_
 refine k1b _ a1 hf1 hp1 fun a2 hf2=>?_
 show (part [1,1,1,1,1,0,1,0,1,1,1,0,1,1] (codeOf chkF)).wp prog _ a2 w1
 have hlt:=HB.out.lt
 refine k1c (W:=W) a2 hf2 hp1 (HB.out.below hb1 HB.out.lt) hlt (fun hs=>Nat.lt_irrefl _ hs.2) HW.out.size (HW.out.trans (hb1.mono HW.out.size)) (HS.out.below hb1) hz fun a3 w3 hf3 hb3=>?_
 rw [<-HR.out] at hf3
 obtain⟨HF3,HB3⟩:=J2 hf3 hb3
 clear hf1 hp1 hb1 hf2 hf3 hb3
 go_wp2_with fail
 exact chkZ r a3 HF3.out HB3.out
theorem chkKO (r:Bool) (hr:r=false) (h0:(ck==0)=false) (h1:(ck==1)=false) (h2:(ck==2)=false) (h3:(ck==3)=false) (h4:(ck==4)=false) (h5:(ck==5)=false) (a:Act) (hfr:Fr 250 a [(1,b),(2,.int .i64 0)]) (hb:Blk w b 47 (cmdCells ck ce cs n epoch kind site client seq name size hA hn hc after since pA pn pc tag)) (hw:Below W W w) :
 (part [1,1,1,1] (codeOf chkF)).wp prog (bodyPost prog chkF fun x w'=>x=.returned (.int .i64 (errB r))/\Below W W w') a w:=by
 subst hr
 have c0:=hb.c1 0
 clear hb
 exact Y163
end
end
def cmdB (c:CmdC):Bool:=
 if c.kind=0 then noneB c.op.n c.op.epoch c.op.kind c.op.site c.op.client c.op.seq c.op.name c.op.size c.op.hs.length&&(shortB c.after c.since c.ops.length&&(nobodyB c.epoch c.site&&decide (c.tag=0)))
 else if c.kind=1 then (decide (c.op.n=0)&&(decide (c.op.epoch=0)&&(decide (c.op.site=0)&&!decide (c.op.kind=3))))&&(shortB c.after c.since c.ops.length&&(tagB c.tag&&opB ⟨1,c.epoch,c.op.kind,c.site,c.op.client,c.op.seq,c.op.name,c.op.size,c.op.hs⟩))
 else if c.kind=2 then noneB c.op.n c.op.epoch c.op.kind c.op.site c.op.client c.op.seq c.op.name c.op.size c.op.hs.length&&(shortB c.after c.since c.ops.length&&(nobodyB c.epoch c.site&&tagB c.tag))
 else if c.kind=3 then (noneB c.op.n c.op.epoch c.op.kind c.op.site c.op.client c.op.seq c.op.name c.op.size c.op.hs.length&&(decide (c.tag=0)&&(reignB c.epoch c.site&&(decide (c.ops.length<=8)&&(decide (c.since<=c.epoch)&&rowB c.after c.since c.ops)))))&&c.ops.all fun o=>decide (o.epoch<=c.epoch)
 else if c.kind=4 then noneB c.op.n c.op.epoch c.op.kind c.op.site c.op.client c.op.seq c.op.name c.op.size c.op.hs.length&&(shortB c.after c.since c.ops.length&&(decide (c.tag=0)&&reignB c.epoch c.site))
 else if c.kind=5 then noneB c.op.n c.op.epoch c.op.kind c.op.site c.op.client c.op.seq c.op.name c.op.size c.op.hs.length&&(decide (c.ops.length=0)&&(decide (c.tag=0)&&(reignB c.epoch c.site&&(decide (1<=c.after)&&(decide (c.after<=80)&&(decide (1<=c.since)&&decide (c.since<=c.epoch)))))))
 else false
theorem check11_any (cells:Array Value) (c:CmdC) {S:Nat->Prop} (w:World) (h:CmdIs w S cells c) (hok:c.Ok) (hn2:c.ops.length<=4294967296) :
 Calls prog 42 #[.agg cells] w fun x w'=>x=.returned (.int .i64 (errB (cmdB c)))/\Below w w w':=by
 obtain⟨hA,hn,hc,pA,pn,pc,rfl,h1,h2⟩:=h
 obtain⟨ck,ce,cs,o,after,since,ops,tag⟩:=c
 obtain⟨n,epoch,kind,site,client,seq,name,size,hs⟩:=o
 simp only at h1 h2 ⊢
 obtain⟨e1,e2,e3,e4,e5,e6,e7,e8,e9⟩:=hok
 simp only at e1 e2 e3 e4 e5 e6 e7 e8 e9
 have l1:=h1.len
 have l2:=h2.len
 have hz:hn<=140737488351232:=by have:=e4.hs;simp only at this;omega
 have hz2:pn<=4294967296:=by simp only at hn2;omega
 obtain⟨r,hr⟩:∃ r,r=cmdB ⟨ck,ce,cs,⟨n,epoch,kind,site,client,seq,name,size,hs⟩,after,since,ops,tag⟩:=⟨_,rfl⟩
 rw [<-hr]
 have hb0:Below w w (w.alloc (.cells (cmdCells ck ce cs n epoch kind site client seq name size hA hn hc after since pA pn pc tag) 47)):=(Below.refl _ _).alloc (Nat.le_refl _) _
 have hbk:=Blk.new w 47 (cmdCells ck ce cs n epoch kind site client seq name size hA hn hc after since pA pn pc tag)
 obtain⟨HB,HK⟩:=J2 hb0 hbk
 have HS:=J (h1.below hb0)
 have HO:=J (h2.below hb0)
 have HR:=J hr
 clear h1 h2 hb0 hbk hr e1 e2 e3 e4 e5 e6 e7 e9 hn2
 go_enter func42,ntmps42
 conv=>arg 2;arg 2;change part [1] (codeOf chkF)
 go_wp2_with fail
 refine Ytaipgdhdfpemcaa.w2 ?_
 refine chk1 _ _ ff HK.out fun a1 w1 hf1 hb1=>?_
 show (part [1,1] (codeOf chkF)).wp prog _ a1 w1
 refine Ytaipgdhdfpemcaa.w2 ?_
 have hk1:=HK.out.below hb1 HK.out.lt
 refine chk2 _ a1 hf1 hk1 fun a2 w2 hf2 hb2=>?_
 show (part [1,1,1] (codeOf chkF)).wp prog _ a2 w2
 refine Ytaipgdhdfpemcaa.w2 ?_
 have hk2:=hk1.below hb2 hk1.lt
 refine chk3 _ a2 hf2 hk2 fun a3 w3 hf3 hbb3=>?_
 show (part [1,1,1,1] (codeOf chkF)).wp prog _ a3 w3
 have hb3:=hk2.below hbb3 hk2.lt
 have hbw3:=(hb1.trans (hb2.mono hb1.size)).trans (hbb3.mono (Nat.le_trans hb1.size hb2.size))
 have hw3:=HB.out.trans (hbw3.mono HB.out.size)
 by_cases h0:ck=0
 ·subst h0
  exact chkK0 r (by rw [HR.out];simp [cmdB,l1,l2]) a3 ⟨hf3.1,hf3.2.1,hf3.2.2.1,hf3.2.2.2.1,hf3.2.2.2.2.1,hf3.2.2.2.2.2.1,hf3.2.2.2.2.2.2.1,trivial⟩ hb3 hw3
 by_cases h1:ck=1
 ·subst h1
  exact chkK1 (hs:=hs) r (by rw [HR.out];simp [cmdB,l2]) a3 ⟨hf3.1,hf3.2.1,hf3.2.2.1,hf3.2.2.2.1,hf3.2.2.2.2.1,hf3.2.2.2.2.2.1,trivial⟩ hb3 (HS.out.below hbw3) hz hw3
 by_cases h2:ck=2
 ·subst h2
  exact chkK2 r (by rw [HR.out];simp [cmdB,l1,l2]) a3 ⟨hf3.1,hf3.2.1,hf3.2.2.1,hf3.2.2.2.1,hf3.2.2.2.2.1,hf3.2.2.2.2.2.1,hf3.2.2.2.2.2.2.1,trivial⟩ hb3 hw3
 by_cases h3:ck=3
 ·subst h3
  exact chkK3 r (by rw [HR.out];simp [cmdB,l1,l2]) a3 ⟨hf3.1,hf3.2.1,hf3.2.2.1,hf3.2.2.2.1,hf3.2.2.2.2.1,trivial⟩ hb3 (HO.out.below hbw3) hz2 e8 hw3
 by_cases h4:ck=4
 ·subst h4
  exact chkK4 r (by rw [HR.out];simp [cmdB,l1,l2]) a3 ⟨hf3.1,hf3.2.1,hf3.2.2.1,hf3.2.2.2.1,hf3.2.2.2.2.1,hf3.2.2.2.2.2.1,hf3.2.2.2.2.2.2.1,trivial⟩ hb3 hw3
 by_cases h5:ck=5
 ·subst h5
  exact chkK5 r (by rw [HR.out];simp [cmdB,l1,l2]) a3 ⟨hf3.1,hf3.2.1,hf3.2.2.1,hf3.2.2.2.1,hf3.2.2.2.2.1,hf3.2.2.2.2.2.1,hf3.2.2.2.2.2.2.1,trivial⟩ hb3 hw3
 exact chkKO r (by rw [HR.out];simp [cmdB,h0,h1,h2,h3,h4,h5]) (beq_eq_false_iff_ne.2 h0) (beq_eq_false_iff_ne.2 h1) (beq_eq_false_iff_ne.2 h2) (beq_eq_false_iff_ne.2 h3) (beq_eq_false_iff_ne.2 h4) (beq_eq_false_iff_ne.2 h5) a3 ⟨hf3.1,hf3.2.1,hf3.2.2.1,hf3.2.2.2.1,trivial⟩ hb3 hw3
section
variable {name:ByteArray} {client epoch kind n seq site size x:Int} {hs:List ByteArray} {o:OpC}
theorem i64_le (h1 : -2000000000000<=x) (h2:x<=2000000000000):I64 x:=⟨by omega,by omega⟩
theorem fits_of (h1:0<=n/\n<=80) (h2:0<=epoch/\epoch<=16) (h3:0<=kind/\kind<=3) (h4:0<=site/\site<=2) (h5:0<=client/\client<=8) (h6:0<=seq/\seq<=1099511627776) (h7:name.size<=16) (h8:0<=size/\size<=512) (h9:hs.length<=100):Fits ⟨n,epoch,kind,site,client,seq,name,size,hs⟩:=
 ⟨⟨i64_le (x:=n) (by omega) (by omega),i64_le (x:=epoch) (by omega) (by omega),i64_le (x:=kind) (by omega) (by omega),i64_le (x:=site) (by omega) (by omega),i64_le (x:=client) (by omega) (by omega),i64_le (x:=seq) (by omega) (by omega),Nat.le_trans h7 (by omega),i64_le (x:=size) (by omega) (by omega),show hs.length*16<=140737488351232 by omega⟩,Nat.le_trans h7 (by unfold maxLen;omega),h8⟩
theorem opB_fits (h:opB o=true):Fits o:=by
 obtain⟨n,epoch,kind,site,client,seq,name,size,hs⟩:=o
 unfold opB headB reignB kindB at h
 simp only [Bool.and_eq_true,decide_eq_true_eq] at h
 obtain⟨⟨h1,h2,h3,h4,h5,h6⟩,h7⟩:=h
 by_cases k1:kind=1
 ·rw [if_pos k1] at h7
  unfold ownB sheetB at h7
  simp only [Bool.and_eq_true,decide_eq_true_eq,beq_iff_eq] at h7
  obtain⟨⟨a1,a2,a3,a4,a5,a6⟩,⟨b1,b2,b3⟩,-⟩:=h7
  exact Y196
 rw [if_neg k1] at h7
 by_cases k2:kind=2
 ·rw [if_pos k2] at h7
  unfold ownB bareB at h7
  simp only [Bool.and_eq_true,decide_eq_true_eq] at h7
  obtain⟨⟨a1,a2,a3,a4,a5,a6⟩,b1,b2⟩:=h7
  exact Y196
 rw [if_neg k2] at h7
 by_cases k3:kind=3
 ·rw [if_pos k3] at h7
  unfold blankB bareB at h7
  simp only [Bool.and_eq_true,decide_eq_true_eq] at h7
  obtain⟨a1,a2,a3,b1,b2⟩:=h7
  exact fits_of (by omega) (by omega) (by omega) (by omega) (by omega) (by omega) (by omega) (by omega) (by omega)
 ·rw [if_neg k3] at h7
  cases h7
end
def Rows (os:List OpC):Prop:=∀ (i:Nat) (o:OpC),os[i]? = some o->o.n=i+1/\opB o=true
section
variable {os:List OpC} {o:OpC}
theorem Rows.nil_:Rows []:=fun i o h=>by simp at h
section
variable (h:Rows os)
include h
theorem Rows.len:os.length<=80:=by
 rcases Nat.eq_zero_or_pos os.length with h0|h0
 ·omega
 ·have:=h (os.length-1) _ (List.getElem?_eq_getElem (by omega))
  have:=opB_n this.2
  omega
theorem Rows.fits:∀ o∈os,Fits o:=fun o ho=>by
 obtain⟨i,hi⟩:=List.getElem?_of_mem ho
 exact opB_fits (h i o hi).2
theorem Rows.ok:∀ o∈os,o.Ok:=fun o ho=>(h.fits o ho).ok
theorem Rows.snoc (hn:o.n=os.length+1) (ho:opB o=true):Rows (os++[o]):=by
 intro i x hx
 rcases Nat.lt_or_ge i os.length with hi|hi
 ·rw [List.getElem?_append_left hi] at hx
  exact h i x hx
 ·rw [List.getElem?_append_right hi] at hx
  rcases Nat.eq_zero_or_pos (i-os.length) with h0|h0
  ·rw [h0] at hx
   simp at hx
   subst hx
   exact⟨by omega,ho⟩
  ·rw [List.getElem?_eq_none (by simp;omega)] at hx
   cases hx
theorem Rows.take (n:Nat):Rows (os.take n):=by
 intro i x hx
 rw [List.getElem?_take] at hx
 split at hx
 ·exact h i x hx
 ·cases hx
end
theorem rowFrom_rows:∀ {l os:List OpC} {E st:Int},Rows os->rowFrom os.length E st l=true->Rows (os++l)
 | [],os,E,st,h,_=>by rw [List.append_nil];exact h
 | o::l,os,E,st,h,hr=>by
  unfold rowFrom at hr
  simp only [Bool.and_eq_true,decide_eq_true_eq] at hr
  obtain⟨h1,h2,h3,h4⟩:=hr
  have h5:=h.snoc h2 h1
  have e:(o.n:Int)=((os++[o]).length:Nat):=by simp;omega
  rw [e] at h4
  have:=rowFrom_rows h5 h4
  rwa [List.append_assoc] at this
end
def hadN (os:List OpC):List OpC->Nat
 | []=>0
 | o::l=>if hasL os o.n o.epoch then hadN os l+1 else 0
section
variable {E N:Int} {l ops os:List OpC} {k:Nat} {o:OpC}
theorem hadN_le (os:List OpC):∀ l,hadN os l<=l.length
 | []=>Nat.le_refl _
 | o::l=>by
  unfold hadN
  have:=hadN_le os l
  split<;>simp<;>omega
theorem hadN_has (os:List OpC):∀ (l:List OpC) (i:Nat) (o:OpC),l[i]? = some o->i<hadN os l->hasL os o.n o.epoch=true
 | [],i,o,h,_=>by simp at h
 | x::l,i,o,h,hi=>by
  unfold hadN at hi
  split at hi
  ·rename_i hx
   cases i with
   | zero=>
    simp at h
    subst h
    exact hx
   | succ i=>exact hadN_has os l i o (by simpa using h) (by omega)
  ·omega
theorem hadN_step (os:List OpC):∀ (l:List OpC) (k:Nat),(∀ (i:Nat) (o:OpC),l[i]? = some o->i<k->hasL os o.n o.epoch=true)->k<=l.length->k<=hadN os l
 | [],k,_,hk=>by simp at hk;omega
 | x::l,0,_,_=>Nat.zero_le _
 | x::l,k+1,h,hk=>by
  unfold hadN
  have h0:=h 0 x rfl (by omega)
  rw [if_pos h0]
  have:=hadN_step os l k (fun i o hi hik=>h (i+1) o (by simpa using hi) (by omega)) (by simpa using hk)
  omega
theorem hadN_stop (os:List OpC) (h:∀ (i:Nat) (o:OpC),l[i]? = some o->i<k->hasL os o.n o.epoch=true) (hk:l[k]? = some o) (hn:hasL os o.n o.epoch=false):hadN os l=k:=by
 obtain⟨hkl,-⟩:=List.getElem?_eq_some_iff.1 hk
 have h1:=hadN_step os l k h (by omega)
 rcases Nat.lt_or_ge k (hadN os l) with h2|h2
 ·have:=hadN_has os l k o hk h2
  rw [this] at hn
  cases hn
 ·omega
theorem hadN_all (os:List OpC) (h:∀ (i:Nat) (o:OpC),l[i]? = some o->hasL os o.n o.epoch=true):hadN os l=l.length:=by
 have h1:=hadN_step os l l.length (fun i o hi _=>h i o hi) (Nat.le_refl _)
 have:=hadN_le os l
 omega
theorem hasL_bound (h:hasL os N E=true):N<=os.length:=by
 unfold hasL at h
 simp only [Bool.or_eq_true,Bool.and_eq_true,decide_eq_true_eq] at h
 omega
theorem rowFrom_at:∀ {l:List OpC} {N E st:Int} {k:Nat} {o:OpC},rowFrom N E st l=true->l[k]? = some o->o.n=N+k+1/\opB o=true
 | [],N,E,st,k,o,_,h=>by simp at h
 | x::l,N,E,st,k,o,hr,h=>by
  unfold rowFrom at hr
  simp only [Bool.and_eq_true,decide_eq_true_eq] at hr
  cases k with
  | zero=>
   simp at h
   subst h
   exact⟨by omega,hr.1⟩
  | succ k=>
   have:=rowFrom_at hr.2.2.2 (by simpa using h)
   exact⟨by omega,this.2⟩
theorem rowFrom_drop:∀ {l:List OpC} {N E st:Int} (k:Nat),rowFrom N E st l=true->k<=l.length->∃ E' st',rowFrom (N+k) E' st' (l.drop k)=true
 | l,N,E,st,0,hr,_=>⟨E,st,by simpa using hr⟩
 | [],N,E,st,k+1,_,hk=>by simp at hk
 | x::l,N,E,st,k+1,hr,hk=>by
  unfold rowFrom at hr
  simp only [Bool.and_eq_true,decide_eq_true_eq] at hr
  obtain⟨E',st',h⟩:=rowFrom_drop k hr.2.2.2 (by simpa using hk)
  refine⟨E',st',?_⟩
  have e:N+((k+1:Nat):Int)=x.n+k:=by omega
  rw [e]
  simpa using h
theorem ship_at (hrow:rowB N E ops=true) (hhas:hasL os N E=true) (ho:ops[hadN os ops]? = some o) :
 o.n=N+hadN os ops+1/\0<=N+hadN os ops/\N+hadN os ops<=os.length/\(¬ o.kind=3->1<=N+hadN os ops)/\opB o=true:=by
 unfold rowB rowHead at hrow
 simp only [Bool.and_eq_true,decide_eq_true_eq] at hrow
 obtain⟨⟨h1,h2,h3,h4,h5⟩,h6⟩:=hrow
 obtain⟨a1,a2⟩:=rowFrom_at h6 ho
 obtain⟨hkl,-⟩:=List.getElem?_eq_some_iff.1 ho
 have hb:=hasL_bound hhas
 rcases Nat.eq_zero_or_pos (hadN os ops) with h0|h0
 ·refine⟨a1,by omega,by omega,fun hk=>?_,a2⟩
  rw [h0] at ho
  cases ops with
  | nil=>simp at ho
  | cons x l=>
   simp at ho
   subst ho
   unfold rowFrom stepB at h6
   simp only [if_neg hk,Bool.and_eq_true,decide_eq_true_eq] at h6
   have:=opB_n a2
   omega
 ·obtain⟨p,hp⟩:∃ p,ops[hadN os ops-1]? = some p:=⟨_,List.getElem?_eq_getElem (by omega)⟩
  have b1:=hadN_has os ops _ p hp (by omega)
  have b2:=hasL_bound b1
  have b3:=(rowFrom_at h6 hp).1
  exact⟨a1,by omega,by omega,fun _=>by omega,a2⟩
theorem ship_rows (hos:Rows os) (hrow:rowB N E ops=true) (hhas:hasL os N E=true) (ho:ops[hadN os ops]? = some o) :
 Rows (os.take (o.n-1).toNat++ops.drop (hadN os ops)):=by
 obtain⟨h1,h2,h3,h4,h5⟩:=ship_at hrow hhas ho
 unfold rowB at hrow
 simp only [Bool.and_eq_true] at hrow
 obtain⟨E',st',hd⟩:=rowFrom_drop (hadN os ops) hrow.2 (hadN_le os ops)
 have e:N+(hadN os ops:Int)=((os.take (o.n-1).toNat).length:Nat):=by rw [List.length_take];omega
 rw [e] at hd
 exact rowFrom_rows (hos.take _) hd
end
def newOp (os:List OpC) (o:OpC) (epoch site:Int):OpC:={o with n:=os.length+1,epoch:=epoch,site:=site}
def reignOp:OpC:=⟨0,0,3,0,0,0,⟨#[]⟩,0,[]⟩
def doesB (os:List OpC) (fence:Int) (c:CmdC):Bool:=
 decide (c.epoch=fence)&&(decide (holderC os=(c.epoch,c.site))&&((match clientC os c.op.client with
  | some was=>decide (was.seq<c.op.seq)
  | none=>true)&&(!(decide (c.op.kind=1)&&(liveC os c.op.name).isSome)&&(!(decide (c.op.kind=1)&&decide (65536<usedF os+c.op.size))&&(!(decide (c.op.kind=2)&&!(liveC os c.op.name).isSome)&&decide (os.length<64))))))
def shipsB (os:List OpC) (fence:Int) (c:CmdC):Bool:=!(decide (c.epoch<fence)||(decide (c.epoch=(holderC os).1)&&!decide (c.site=(holderC os).2)))
def siteL (os:List OpC) (i:Int):Int:=match os[i.toNat]? with
 | some o=>o.site
 | none=>0
def shipOs (os:List OpC) (c:CmdC):List OpC:=
 if hasL os c.after c.since then (match c.ops[hadN os c.ops]? with
  | some o=>if ¬ o.kind=3/\¬ siteL os (o.n-2)=o.site then os else os.take (o.n-1).toNat++c.ops.drop (hadN os c.ops)
  | none=>os) else os
def stepC (os:List OpC) (fence:Int) (c:CmdC):List OpC×Int:=
 if cmdB c=false then (os,fence)
 else if c.kind=1 then (if doesB os fence c then os++[newOp os c.op c.epoch c.site] else os,fence)
 else if c.kind=3 then (if shipsB os fence c then (shipOs os c,c.epoch) else (os,fence))
 else if c.kind=4 then (if c.epoch<=fence then (os,fence) else if 80<=os.length then (os,fence) else (os++[newOp os reignOp c.epoch c.site],c.epoch))
 else (os,fence)
section
variable {c:CmdC} {n:Int} {os:List OpC} {o:OpC}
section
variable (h:cmdB c=true)
include h
theorem cmdB_ship (hk:c.kind=3):rowB c.after c.since c.ops=true/\1<=c.epoch/\c.epoch<=16/\0<=c.site/\c.site<2/\c.ops.length<=8:=by
 unfold cmdB at h
 rw [if_neg (by omega),if_neg (by omega),if_neg (by omega),if_pos hk] at h
 unfold reignB at h
 simp only [Bool.and_eq_true,decide_eq_true_eq] at h
 exact⟨h.1.2.2.2.2.2,h.1.2.2.1.1,h.1.2.2.1.2.1,h.1.2.2.1.2.2.1,h.1.2.2.1.2.2.2,h.1.2.2.2.1⟩
theorem cmdB_mark (hk:c.kind=5):1<=c.after/\c.after<=80:=by
 unfold cmdB at h
 rw [if_neg (by omega),if_neg (by omega),if_neg (by omega),if_neg (by omega),if_neg (by omega),if_pos hk] at h
 simp only [Bool.and_eq_true,decide_eq_true_eq] at h
 exact⟨h.2.2.2.2.1,h.2.2.2.2.2.1⟩
theorem cmdB_reign (hk:c.kind=4):1<=c.epoch/\c.epoch<=16/\0<=c.site/\c.site<2:=by
 unfold cmdB at h
 rw [if_neg (by omega),if_neg (by omega),if_neg (by omega),if_neg (by omega),if_pos hk] at h
 unfold reignB at h
 simp only [Bool.and_eq_true,decide_eq_true_eq] at h
 exact h.2.2.2
theorem cmdB_do (hk:c.kind=1):opB ⟨1,c.epoch,c.op.kind,c.site,c.op.client,c.op.seq,c.op.name,c.op.size,c.op.hs⟩=true/\¬ c.op.kind=3:=by
 unfold cmdB at h
 rw [if_neg (by omega),if_pos hk] at h
 simp only [Bool.and_eq_true,decide_eq_true_eq,Bool.not_eq_true',decide_eq_false_iff_not] at h
 exact⟨h.2.2.2,h.1.2.2.2⟩
end
theorem opB_at (h:opB o=true) (h1:1<=n) (h2:n<=80):opB {o with n:=n}=true:=by
 unfold opB headB at h ⊢
 simp only [Bool.and_eq_true,decide_eq_true_eq] at h ⊢
 exact⟨⟨h1,h2,h.1.2.2⟩,h.2⟩
theorem newOp_do (h:cmdB c=true) (hk:c.kind=1) (hl:os.length<64):opB (newOp os c.op c.epoch c.site)=true:=
 opB_at (cmdB_do h hk).1 (by omega) (by omega)
theorem newOp_reign (h:cmdB c=true) (hk:c.kind=4) (hl:os.length<80):opB (newOp os reignOp c.epoch c.site)=true:=by
 obtain⟨h1,h2,h3,h4⟩:=cmdB_reign h hk
 have e:opB ⟨1,c.epoch,3,c.site,0,0,⟨#[]⟩,0,[]⟩=true:=by
  have e1:headB 1 c.epoch c.site=true:=by
   unfold headB reignB
   rw [decide_eq_true h1,decide_eq_true h2,decide_eq_true h3,decide_eq_true h4]
   rfl
  unfold opB
  rw [e1]
  rfl
 exact opB_at e (by omega) (by omega)
end
end Go.Proofs.Ytaipgdhdfpemcaa
