/- THE WALKS OF THE LANE, part 17. -/
import Derived.Test.YtaipgdhdfpemcaaG15
namespace Go.Proofs.Ytaipgdhdfpemcaa
set_option linter.all false
open Go.RowKit Go.Proofs.Try
set_option maxRecDepth 100000
set_option maxHeartbeats 4000000
section
variable {ck ce cs n epoch kind site client seq:Int} {name:ByteArray} {size:Int} {hA:O} {hn hc:Nat} {after since:Int} {pA:O} {pn pc:Nat} {tag:Int}
section
variable {p q s x:Bool} {l os:List OpC} {b k:Nat} {S:Nat->Prop} {o:OpC} {W w:World}
theorem chkZ (r:Bool) (a:Act) (hfr:Fr 250 a [(2,.int .i64 0),(6,r)]) (hw:Below W W w):(part [1,1,1,1,1,1] (codeOf chkF)).wp prog (bodyPost prog chkF fun x w'=>x=.returned (.int .i64 (errB r))/\Below W W w') a w:=by
 cases r
 all_goals
  refine gg hfr fun t=>?_
  go_wp2_with fail
  go_ret
  exact⟨rfl,hw⟩
theorem chkK5 (r:Bool) (hr:r=(p&&(decide (pn=0)&&(decide (tag=0)&&(reignB ce cs&&(decide (1<=after)&&(decide (after<=80)&&(decide (1<=since)&&decide (since<=ce))))))))) (a:Act) (hfr:Fr 250 a [(1,b),(2,.int .i64 0),(3,p),(4,q),(5,s)]) (hb:Blk w b 47 (cmdCells 5 ce cs n epoch kind site client seq name size hA hn hc after since pA pn pc tag)) (hw:Below W W w) :
 (part [1,1,1,1] (codeOf chkF)).wp prog (bodyPost prog chkF fun x w'=>x=.returned (.int .i64 (errB r))/\Below W W w') a w:=by
 obtain⟨c0,c1,c2⟩:=hb.cs 0 3
 obtain⟨c12,c13,c14,c15⟩:=hb.cs 12 4
 obtain⟨HW,HE⟩:=J2 hw hr
 clear hb hw hr
 cases p
 ·obtain rfl:r=false:=HE.out
  exact Y14
 have he:r=(decide (pn=0)&&(decide (tag=0)&&(reignB ce cs&&(decide (1<=after)&&(decide (after<=80)&&(decide (1<=since)&&decide (since<=ce))))))):=HE.out
 clear HE
 by_cases hp:pn=0
 rotate_left
 ·obtain rfl:r=false:=by rw [he];simp [hp]
  have ehp:((pn:Int)==0)=false:=beq_eq_false_iff_ne.2 (by omega)
  clear hp he
  exact Y14
 have he2:r=(decide (tag=0)&&(reignB ce cs&&(decide (1<=after)&&(decide (after<=80)&&(decide (1<=since)&&decide (since<=ce)))))):=by rw [he];simp [hp]
 have ehp:((pn:Int)==0)=true:=by rw [hp];rfl
 clear hp he
 have he:=he2
 clear he2
 by_cases ht:tag=0
 rotate_left
 ·obtain rfl:r=false:=by rw [he];simp [ht]
  have eht:(tag==0)=false:=beq_eq_false_iff_ne.2 ht
  clear ht he
  exact Y14
 have he2:r=(reignB ce cs&&(decide (1<=after)&&(decide (after<=80)&&(decide (1<=since)&&decide (since<=ce))))):=by rw [he];simp [ht]
 have eht:(tag==0)=true:=by rw [ht];rfl
 clear ht he
 have he:=he2
 clear he2
 cases hv:reignB ce cs
 ·obtain rfl:r=false:=by rw [he,hv];rfl
  clear he
  exact Y165
 ·rw [hv,Bool.true_and] at he
  have HE:=J he
  clear he
  refine gg hfr fun t=>?_
  go_wp2_with fail
  refine (reigned_any _ _ _).mono ?_
  rintro e w1 ⟨rfl,rfl⟩
  rw [hv]
  dsimp only
  go_wp2_with fail
  all_goals
   refine bodyPost_ret (results_tmp rfl _ _ _) rfl ?_
   refine⟨congrArg (fun z=>Ending.returned (Value.int .i64 z)) ?_,HW.out⟩
   have he:=HE.out
   try simp only [Bool.not_eq_false',Bool.not_eq_true',decide_eq_true_eq,decide_eq_false_iff_not] at *
   first
    | (have hx : r = true := by (rw [he]; simp <;> omega)
       rw [hx];rfl)
    | (have hx : r = false := by (rw [he]; simp <;> omega)
       rw [hx];rfl)
theorem k3a (Q:Z) (a:Act) (hfr:Fr 250 a [(1,b),(2,.int .i64 0),(3,p)]) (hb:Blk w b 47 (cmdCells 3 ce cs n epoch kind site client seq name size hA hn hc after since pA pn pc tag)) (ho:OpsIs w S pA pn pc os) (hn:pn<=4294967296) (hok:∀ o∈os,o.Ok) (hQ:∀ a' w',Fr 250 a' [(1,b),(2,.int .i64 0),(6,.bool (p&&(decide (tag=0)&&(reignB ce cs&&(decide (pn<=8)&&(decide (since<=ce)&&rowB after since os))))))]->Below w w w'->Q .normal a' w') :
 (part [1,1,1,1,1,0,1,0,1,1,1,1,1,1,1,0,0] (codeOf chkF)).wp prog Q a w:=by
 obtain⟨c1,c2⟩:=hb.cs 1 2
 obtain⟨c12,c13,c14,c15⟩:=hb.cs 12 4
 have HC:=J (row_any after since w ho hn hok)
 have HQ:=J hQ
 clear hQ hb ho hok
 cases p
 ·skip
  refine gg hfr fun t=>?_
  go_wp2_with fail
  refine HQ.out _ _ ⟨rfl,rfl,rfl,rfl,?_,trivial⟩ (Below.refl _ _)
  refine congrArg Value.bool ?_
  rfl
 by_cases ht:tag=0
 rotate_left
 ·have et:(tag==0)=false:=beq_eq_false_iff_ne.2 ht
  have HT:=J (decide_eq_false ht)
  clear ht
  refine gg hfr fun t=>?_
  go_wp2_with fail
  refine HQ.out _ _ ⟨rfl,rfl,rfl,rfl,?_,trivial⟩ (Below.refl _ _)
  refine congrArg Value.bool ?_
  rw [HT.out];rfl
 have et:(tag==0)=true:=by rw [ht];rfl
 have HT:=J (decide_eq_true ht)
 clear ht
 refine gg hfr fun t=>?_
 go_wp2_with fail
 refine (reigned_any _ _ _).mono ?_
 rintro e w1 ⟨rfl,rfl⟩
 cases hv:reignB ce cs
 ·dsimp only
  go_wp2_with fail
  refine HQ.out _ _ ⟨rfl,rfl,rfl,rfl,?_,trivial⟩ (Below.refl _ _)
  refine congrArg Value.bool ?_
  rw [HT.out,hv];rfl
 dsimp only
 go_wp2_with fail
 ·refine HC.out.mono ?_
  rintro e w1 ⟨rfl,hb1⟩
  have HB1:=J hb1
  clear hb1
  dsimp only
  go_wp2_with fail
  rename_i h1 h2
  refine HQ.out _ _ ⟨rfl,rfl,rfl,rfl,?_,trivial⟩ HB1.out
  refine congrArg Value.bool ?_
  have h3:pn<=8:=by omega
  rw [HT.out,hv,decide_eq_true h3,decide_eq_true h2]
  rfl
 all_goals
  refine HQ.out _ _ ⟨rfl,rfl,rfl,rfl,?_,trivial⟩ (Below.refl _ _)
  refine congrArg Value.bool ?_
  rw [HT.out,hv,Bool.eq_iff_iff]
  simp
  try omega
theorem allE_next {ce:Int} (h:l[k]? = some o):(l.take (k+1)).all (fun o=>decide (o.epoch<=ce))=((l.take k).all (fun o=>decide (o.epoch<=ce))&&decide (o.epoch<=ce)):=by
 rw [List.take_add_one,h]
 simp
theorem k3b (Q:Z) (a:Act) (hfr:Fr 250 a [(1,b),(2,.int .i64 0),(6,x)]) (hb:Blk w b 47 (cmdCells 3 ce cs n epoch kind site client seq name size hA hn hc after since pA pn pc tag)) (ho:OpsIs w S pA pn pc os) (hn:pn<=4294967296) (hQ:∀ a' w',Fr 250 a' [(2,.int .i64 0),(6,.bool (x&&os.all fun o=>decide (o.epoch<=ce)))]->Below w w w'->Q .normal a' w') :
 (part [1,1,1,1,1,0,1,0,1,1,1,1,1,1,1,0,1] (codeOf chkF)).wp prog Q a w:=by
 have c14:=hb.c1 14
 have hlen:=ho.len
 obtain⟨HO,HK,HL,HQ⟩:=J4 ho hb hlen hQ
 clear hQ hb ho hlen
 refine gg hfr fun t=>?_
 go_wp2_with fail
 go_loopw [6,174] (fun v i wr=>∃ k:Nat,k<=pn/\i=.int .i64 k/\v=.bool (x&&(os.take k).all fun o=>decide (o.epoch<=ce))/\Below w w wr) (fun _ i _=>pn-(intOf i).toNat)
 case atStart=>exact⟨0,by omega,rfl,by simp,Below.refl _ _⟩
 case round=>
  obtain⟨k,hk,rfl,rfl,hb⟩:=hrel
  have HB:=J hb
  have c1:=(HK.out.below hb HK.out.lt).cell 1
  simp at c1
  clear hb
  rcases Nat.lt_or_ge k pn with hk1|hk1
  ·obtain⟨ad,o,oA,on,oc,rfl,hab,hck,hop,hss⟩:=(HO.out.below HB.out).at_ hk1
   have HN:=J (allE_next (ce:=ce) hck)
   obtain⟨q,hq⟩:∃ q,q=(x&&(os.take k).all fun o=>decide (o.epoch<=ce)):=⟨_,rfl⟩
   have HQ2:=J hq
   rw [<-hq]
   obtain⟨k0,k1,k2,k3,k4,k5,k6,k7,k8⟩:=hop
   simp only [OpC.at_] at k0 k1 k2 k3 k4 k5 k6 k7 k8
   have b1:(0:Int)<=(k:Int):=by omega
   have b2:(k:Int)<(pn:Int):=by omega
   have HB2:=J (HB.out.alloc HB.out.size (.cells (opCells o.n o.epoch o.kind o.site o.client o.seq o.name o.size oA on oc) 45))
   have c1b:=(HK.out.below HB2.out HK.out.lt).cell 1
   simp at c1b
   clear hq hck hss hab
   cases q
   all_goals
    go_wp2_with fail
    go_roundw
    case rel=>exact⟨k+1,by omega,by go_num,by rw [HN.out,<-Bool.and_assoc,<-HQ2.out];rfl,HB2.out⟩
    case measure=>simp [intOf];omega
  ·obtain rfl:pn=k:=by omega
   have hall:(os.take pn).all (fun o=>decide (o.epoch<=ce))=os.all fun o=>decide (o.epoch<=ce):=by rw [List.take_of_length_le (by rw [HL.out];exact Nat.le_refl _)]
   rw [hall]
   go_wp2_with fail
   exact HQ.out _ _ ff HB.out
theorem chkK3 (r:Bool) (hr:r=((p&&(decide (tag=0)&&(reignB ce cs&&(decide (pn<=8)&&(decide (since<=ce)&&rowB after since os)))))&&os.all fun o=>decide (o.epoch<=ce))) (a:Act) (hfr:Fr 250 a [(1,b),(2,.int .i64 0),(3,p)]) (hb:Blk w b 47 (cmdCells 3 ce cs n epoch kind site client seq name size hA hn hc after since pA pn pc tag)) (ho:OpsIs w S pA pn pc os) (hn:pn<=4294967296) (hok:∀ o∈os,o.Ok) (hw:Below W W w) :
 (part [1,1,1,1] (codeOf chkF)).wp prog (bodyPost prog chkF fun x w'=>x=.returned (.int .i64 (errB r))/\Below W W w') a w:=by
 have c0:=hb.c1 0
 obtain⟨HB,HO,HOK,HW,HR⟩:=J5 hb ho hok hw hr
 clear hb ho hok hw hr
 refine gg hfr fun t=>?_
 conv=>arg 2;arg 2;arg 2;change part [1,1,1,1,1,1] (codeOf chkF)
 conv=>arg 2;arg 2;arg 1;arg 2;arg 2;arg 2;arg 3;arg 2;arg 3;arg 2;arg 3;arg 2;arg 2;change part [1,1,1,1,1,0,1,0,1,1,1,1,1,1,1,0] (codeOf chkF)
 go_wp2_with fail
 refine Wt ?_
 refine k3a _ _ ff HB.out HO.out hn HOK.out fun a1 w1 hf1 hb1=>?_
 show (part [1,1,1,1,1,0,1,0,1,1,1,1,1,1,1,0,1] (codeOf chkF)).wp prog _ a1 w1
 refine k3b _ a1 hf1 (HB.out.below hb1 HB.out.lt) (HO.out.below hb1) hn fun a2 w2 hf2 hb2=>?_
 rw [<-HR.out] at hf2
 have HF2:=J hf2
 have HZ:=J ((HW.out.trans (hb1.mono HW.out.size)).trans (hb2.mono (Nat.le_trans HW.out.size hb1.size)))
 clear hf1 hb1 hf2 hb2
 go_wp2_with fail
 exact chkZ r a2 HF2.out HZ.out
end
end
section
variable {ck ce cs n epoch kind site client seq:Int} {name:ByteArray} {size:Int} {hA:O} {hn hc:Nat} {after since:Int} {pA:O} {pn pc:Nat} {tag:Int}
section
variable {K:Act->World->Prop} {p q x:Bool} {post:Ending->World->Prop} {hs:List ByteArray} {b g:Nat} {S:Nat->Prop} {t:TypeId} {a0 a1 a2 a3 a4 a5 a6 a7 a8:Value} {W w:World}
theorem k1a (Q:Z) (a:Act) (hfr:Fr 250 a [(1,b),(2,.int .i64 0),(4,q)]) (hb:Blk w b 47 (cmdCells 1 ce cs n epoch kind site client seq name size hA hn hc after since pA pn pc tag)) (hQ:∀ a' w',Fr 250 a' [(1,b),(2,.int .i64 0),(4,q),(7,(w:Nat))]->Blk w' w 45 (opCells n epoch kind site client seq name size hA hn hc)->Below w w w'->Q .normal a' w') :
 (part [1,1,1,1,1,0,1,0,1,1,1,0,0] (codeOf chkF)).wp prog Q a w:=by
 obtain⟨c3,c4,c5,c6,c7,c8,c9,c10,c11⟩:=hb.cs 3 9
 have HQ:=J hQ
 have HP:=J (Blk.new w 45 (opCells n epoch kind site client seq name size hA hn hc))
 have HB:=J ((Below.refl w.heap.size w).alloc (Nat.le_refl _) (.cells (opCells n epoch kind site client seq name size hA hn hc) 45))
 clear hQ hb
 refine gg hfr fun t=>?_
 go_wp2_with fail
 exact HQ.out _ _ ff HP.out HB.out
theorem k1b (Q:Z) (a:Act) (hfr:Fr 250 a [(1,b),(2,.int .i64 0),(4,q),(7,g)]) (hg:Blk w g 45 (opCells n epoch kind site client seq name size hA hn hc)) (hQ:∀ a',Fr 250 a' [(1,b),(2,.int .i64 0),(4,q),(7,g),(8,(decide (n=0)&&(decide (epoch=0)&&(decide (site=0)&&!decide (kind=3)))))]->Q .normal a' w) :
 (part [1,1,1,1,1,0,1,0,1,1,1,0,1,0] (codeOf chkF)).wp prog Q a w:=by
 obtain⟨c0,c1,c2,c3⟩:=hg.cs 0 4
 have HQ:=J hQ
 clear hQ hg
 refine gg hfr fun t=>?_
 go_wp2_with fail
 all_goals
  refine HQ.out _ ⟨rfl,rfl,rfl,rfl,rfl,rfl,?_,trivial⟩
  refine congrArg Value.bool ?_
  rw [Bool.eq_iff_iff]
  simp
  try omega
theorem set3_ (h:Blk W g t #[a0,a1,a2,a3,a4,a5,a6,a7,a8]) (x y z:Value):Blk (((W.setCell ⟨g,0,none⟩ x).setCell ⟨g,1,none⟩ y).setCell ⟨g,3,none⟩ z) g t #[x,y,a2,z,a4,a5,a6,a7,a8]:=((h.set_ 0 x).set_ 1 y).set_ 3 z
theorem k1c (a:Act) (hfr:Fr 250 a [(1,b),(2,.int .i64 0),(4,q),(7,g),(8,x)]) (hg:Blk w g 45 (opCells n epoch kind site client seq name size hA hn hc)) (hb:Blk w b 47 (cmdCells 1 ce cs n epoch kind site client seq name size hA hn hc after since pA pn pc tag)) (hbg:b<g) (hgS:¬ S g) (hB:W.heap.size<=g) (hw:Below W W w) (h:StrIs w S hA hn hc hs) (hz:hn<=140737488351232) (hK:∀ a' w',Fr 250 a' [(2,.int .i64 0),(6,.bool (x&&(q&&(tagB tag&&opB ⟨1,ce,kind,cs,client,seq,name,size,hs⟩))))]->Below W W w'->K a' w') :
 (part [1,1,1,1,1,0,1,0,1,1,1,0,1,1] (codeOf chkF)).wp prog (Exit.inBlock 0 (Exit.then K (bodyPost prog chkF post))) a w:=by
 obtain⟨c1,c2⟩:=hb.cs 1 2
 have c15:=hb.c1 15
 obtain⟨d0,d1⟩:=hg.cs 0 2
 have d3:=hg.c1 3
 have f0:w.frozen? ⟨g,0,none⟩=false:=hg.frozen 0
 have f1:w.frozen? ⟨g,1,none⟩=false:=hg.frozen 1
 have f3:w.frozen? ⟨g,3,none⟩=false:=hg.frozen 3
 obtain⟨HK,HB,HGS,HGB⟩:=J4 hK hb hgS hB
 have n1:¬ b=g:=by omega
 have n2:¬ g=b:=by omega
 obtain⟨HP,HW,HS⟩:=J3 hg hw h
 clear hK hb hg hB hbg hgS hw h
 refine gg hfr fun t=>?_
 go_wp2_with fail
 go_region
 obtain⟨w1,hw1⟩:∃ w1,w1=(((w.setCell ⟨g,0,none⟩ (.int .i64 1)).setCell ⟨g,1,none⟩ (.int .i64 ce)).setCell ⟨g,3,none⟩ (.int .i64 cs)).drew:=⟨_,rfl⟩
 have hp1:Blk w1 g 45 (opCells 1 ce kind cs client seq name size hA hn hc):=by rw [hw1];exact set3_ HP.out _ _ _
 have hk1:Kept (fun y=>y≠g) w w1:=by
  rw [hw1]
  exact⟨by simp,fun b' h1 _=>((Below.heap_setCell _ _ _ b' h1).trans (Below.heap_setCell _ _ _ b' h1)).trans (Below.heap_setCell _ _ _ b' h1)⟩
 have hb1:Below W W w1:=by
  rw [hw1]
  exact (((HW.out.setCell HGB.out _).setCell HGB.out _).setCell HGB.out _).drew
 rw [<-hw1]
 have hkb:Blk w1 b 47 (cmdCells 1 ce cs n epoch kind site client seq name size hA hn hc after since pA pn pc tag):=(hk1.2 b n1 HB.out.lt).trans HB.out
 have d15:=hkb.c1 15
 obtain⟨p0,p1,p2,p3,p4,p5,p6,p7,p8⟩:=hp1.cs 0 9
 have hsx:StrIs w1 S hA hn hc hs:=HS.out.kept ⟨hk1.1,fun y h1 h2=>hk1.2 y (by rintro rfl;exact HGS.out h1) h2⟩
 have hce:Calls prog 84 #[.agg (opCells 1 ce kind cs client seq name size hA hn hc)] w1 fun x w'=>x=.returned (.int .i64 (errB (opB ⟨1,ce,kind,cs,client,seq,name,size,hs⟩)))/\Below w1 w1 w':=checkOp_any ⟨1,ce,kind,cs,client,seq,name,size,hs⟩ w1 hsx hz
 obtain⟨o,hoe⟩:∃ o,o=opB ⟨1,ce,kind,cs,client,seq,name,size,hs⟩:=⟨_,rfl⟩
 rw [<-hoe] at hce HK
 obtain⟨HC,HB1,HOE⟩:=J3 hce hb1 hoe
 clear hsx hce hk1 hb1 hw1 hkb hp1 c1 c2 c15 d0 d1 d3 f0 f1 f3 hoe
 cases x
 ·go_wp2_with fail
  exact HK.out _ _ ff HB1.out
 cases q
 ·go_wp2_with fail
  exact HK.out _ _ ff HB1.out
 go_wp2_with fail
 refine (tagged_any _ _).mono ?_
 rintro e w2 ⟨rfl,rfl⟩
 cases hv:tagB tag
 ·dsimp only
  go_wp2_with fail
  exact HK.out _ _ ⟨rfl,rfl,rfl,by rw [hv];rfl,trivial⟩ HB1.out
 dsimp only
 go_wp2_with fail
 refine HC.out.mono ?_
 rintro e w3 ⟨rfl,hb3⟩
 have HB3:=J (HB1.out.trans (hb3.mono HB1.out.size))
 clear hb3
 cases o
 all_goals
  dsimp only [errB]
  go_wp2_with fail
  exact HK.out _ _ ⟨rfl,rfl,rfl,by rw [hv];rfl,trivial⟩ HB3.out
theorem chkK1 (r:Bool) (hr:r=((decide (n=0)&&(decide (epoch=0)&&(decide (site=0)&&!decide (kind=3))))&&(q&&(tagB tag&&opB ⟨1,ce,kind,cs,client,seq,name,size,hs⟩)))) (a:Act) (hfr:Fr 250 a [(1,b),(2,.int .i64 0),(3,p),(4,q)]) (hb:Blk w b 47 (cmdCells 1 ce cs n epoch kind site client seq name size hA hn hc after since pA pn pc tag)) (h:StrIs w S hA hn hc hs) (hz:hn<=140737488351232) (hw:Below W W w) :
 (part [1,1,1,1] (codeOf chkF)).wp prog (bodyPost prog chkF fun x w'=>x=.returned (.int .i64 (errB r))/\Below W W w') a w:=by
 have c0:=hb.c1 0
 have HB:=J hb
 have HS:=J (h.mono (S':=fun b=>S b/\b<w) fun b hb hs=>⟨hs,hb⟩)
 obtain⟨HW,HR⟩:=J2 hw hr
 clear hb h hw hr
 refine gg hfr fun t=>?_
 conv=>arg 2;arg 2;arg 2;change part [1,1,1,1,1,1] (codeOf chkF)
 conv=>arg 2;arg 2;arg 1;arg 2;arg 2;arg 2;arg 3;arg 2;arg 2;change part [1,1,1,1,1,0,1,0,1,1,1,0] (codeOf chkF)
 go_wp2_with fail
 refine Wt ?_
 refine k1a _ _ ff HB.out fun a1 w1 hf1 hp1 hb1=>?_
 show (part [1,1,1,1,1,0,1,0,1,1,1,0,1] (codeOf chkF)).wp prog _ a1 w1
 refine Wt ?_
 refine k1b _ a1 hf1 hp1 fun a2 hf2=>?_
 show (part [1,1,1,1,1,0,1,0,1,1,1,0,1,1] (codeOf chkF)).wp prog _ a2 w1
 have hlt:=HB.out.lt
 refine k1c (W:=W) a2 hf2 hp1 (HB.out.below hb1 HB.out.lt) hlt (fun hs=>Nat.lt_irrefl _ hs.2) HW.out.size (HW.out.trans (hb1.mono HW.out.size)) (HS.out.below hb1) hz fun a3 w3 hf3 hb3=>?_
 rw [<-HR.out] at hf3
 obtain⟨HF3,HB3⟩:=J2 hf3 hb3
 clear hf1 hp1 hb1 hf2 hf3 hb3
 go_wp2_with fail
 exact chkZ r a3 HF3.out HB3.out
theorem chkKO (r:Bool) (hr:r=false) (h0:(ck==0)=false) (h1:(ck==1)=false) (h2:(ck==2)=false) (h3:(ck==3)=false) (h4:(ck==4)=false) (h5:(ck==5)=false) (a:Act) (hfr:Fr 250 a [(1,b),(2,.int .i64 0)]) (hb:Blk w b 47 (cmdCells ck ce cs n epoch kind site client seq name size hA hn hc after since pA pn pc tag)) (hw:Below W W w) :
 (part [1,1,1,1] (codeOf chkF)).wp prog (bodyPost prog chkF fun x w'=>x=.returned (.int .i64 (errB r))/\Below W W w') a w:=by
 subst hr
 have c0:=hb.c1 0
 clear hb
 refine gg hfr fun t=>?_
 go_wp2_with fail
 go_ret
 exact⟨rfl,hw⟩
end
end
def cmdB (c:CmdC):Bool:=
 if c.kind=0 then noneB c.op.n c.op.epoch c.op.kind c.op.site c.op.client c.op.seq c.op.name c.op.size c.op.hs.length&&(shortB c.after c.since c.ops.length&&(nobodyB c.epoch c.site&&decide (c.tag=0)))
 else if c.kind=1 then (decide (c.op.n=0)&&(decide (c.op.epoch=0)&&(decide (c.op.site=0)&&!decide (c.op.kind=3))))&&(shortB c.after c.since c.ops.length&&(tagB c.tag&&opB ⟨1,c.epoch,c.op.kind,c.site,c.op.client,c.op.seq,c.op.name,c.op.size,c.op.hs⟩))
 else if c.kind=2 then noneB c.op.n c.op.epoch c.op.kind c.op.site c.op.client c.op.seq c.op.name c.op.size c.op.hs.length&&(shortB c.after c.since c.ops.length&&(nobodyB c.epoch c.site&&tagB c.tag))
 else if c.kind=3 then (noneB c.op.n c.op.epoch c.op.kind c.op.site c.op.client c.op.seq c.op.name c.op.size c.op.hs.length&&(decide (c.tag=0)&&(reignB c.epoch c.site&&(decide (c.ops.length<=8)&&(decide (c.since<=c.epoch)&&rowB c.after c.since c.ops)))))&&c.ops.all fun o=>decide (o.epoch<=c.epoch)
 else if c.kind=4 then noneB c.op.n c.op.epoch c.op.kind c.op.site c.op.client c.op.seq c.op.name c.op.size c.op.hs.length&&(shortB c.after c.since c.ops.length&&(decide (c.tag=0)&&reignB c.epoch c.site))
 else if c.kind=5 then noneB c.op.n c.op.epoch c.op.kind c.op.site c.op.client c.op.seq c.op.name c.op.size c.op.hs.length&&(decide (c.ops.length=0)&&(decide (c.tag=0)&&(reignB c.epoch c.site&&(decide (1<=c.after)&&(decide (c.after<=80)&&(decide (1<=c.since)&&decide (c.since<=c.epoch)))))))
 else false
theorem check11_any (cells:Array Value) (c:CmdC) {S:Nat->Prop} (w:World) (h:CmdIs w S cells c) (hok:c.Ok) (hn2:c.ops.length<=4294967296) :
 Calls prog 42 #[.agg cells] w fun x w'=>x=.returned (.int .i64 (errB (cmdB c)))/\Below w w w':=by
 obtain⟨hA,hn,hc,pA,pn,pc,rfl,h1,h2⟩:=h
 obtain⟨ck,ce,cs,o,after,since,ops,tag⟩:=c
 obtain⟨n,epoch,kind,site,client,seq,name,size,hs⟩:=o
 simp only at h1 h2 ⊢
 obtain⟨e1,e2,e3,e4,e5,e6,e7,e8,e9⟩:=hok
 simp only at e1 e2 e3 e4 e5 e6 e7 e8 e9
 have l1:=h1.len
 have l2:=h2.len
 have hz:hn<=140737488351232:=by have:=e4.hs;simp only at this;omega
 have hz2:pn<=4294967296:=by simp only at hn2;omega
 obtain⟨r,hr⟩:∃ r,r=cmdB ⟨ck,ce,cs,⟨n,epoch,kind,site,client,seq,name,size,hs⟩,after,since,ops,tag⟩:=⟨_,rfl⟩
 rw [<-hr]
 have hb0:Below w w (w.alloc (.cells (cmdCells ck ce cs n epoch kind site client seq name size hA hn hc after since pA pn pc tag) 47)):=(Below.refl _ _).alloc (Nat.le_refl _) _
 have hbk:=Blk.new w 47 (cmdCells ck ce cs n epoch kind site client seq name size hA hn hc after since pA pn pc tag)
 obtain⟨HB,HK⟩:=J2 hb0 hbk
 have HS:=J (h1.below hb0)
 have HO:=J (h2.below hb0)
 have HR:=J hr
 clear h1 h2 hb0 hbk hr e1 e2 e3 e4 e5 e6 e7 e9 hn2
 go_enter func42,ntmps42
 conv=>arg 2;arg 2;change part [1] (codeOf chkF)
 go_wp2_with fail
 refine Wt ?_
 refine chk1 _ _ ff HK.out fun a1 w1 hf1 hb1=>?_
 show (part [1,1] (codeOf chkF)).wp prog _ a1 w1
 refine Wt ?_
 have hk1:=HK.out.below hb1 HK.out.lt
 refine chk2 _ a1 hf1 hk1 fun a2 w2 hf2 hb2=>?_
 show (part [1,1,1] (codeOf chkF)).wp prog _ a2 w2
 refine Wt ?_
 have hk2:=hk1.below hb2 hk1.lt
 refine chk3 _ a2 hf2 hk2 fun a3 w3 hf3 hbb3=>?_
 show (part [1,1,1,1] (codeOf chkF)).wp prog _ a3 w3
 have hb3:=hk2.below hbb3 hk2.lt
 have hbw3:=(hb1.trans (hb2.mono hb1.size)).trans (hbb3.mono (Nat.le_trans hb1.size hb2.size))
 have hw3:=HB.out.trans (hbw3.mono HB.out.size)
 by_cases h0:ck=0
 ·subst h0
  exact chkK0 r (by rw [HR.out];simp [cmdB,l1,l2]) a3 ⟨hf3.1,hf3.2.1,hf3.2.2.1,hf3.2.2.2.1,hf3.2.2.2.2.1,hf3.2.2.2.2.2.1,hf3.2.2.2.2.2.2.1,trivial⟩ hb3 hw3
 by_cases h1:ck=1
 ·subst h1
  exact chkK1 (hs:=hs) r (by rw [HR.out];simp [cmdB,l2]) a3 ⟨hf3.1,hf3.2.1,hf3.2.2.1,hf3.2.2.2.1,hf3.2.2.2.2.1,hf3.2.2.2.2.2.1,trivial⟩ hb3 (HS.out.below hbw3) hz hw3
 by_cases h2:ck=2
 ·subst h2
  exact chkK2 r (by rw [HR.out];simp [cmdB,l1,l2]) a3 ⟨hf3.1,hf3.2.1,hf3.2.2.1,hf3.2.2.2.1,hf3.2.2.2.2.1,hf3.2.2.2.2.2.1,hf3.2.2.2.2.2.2.1,trivial⟩ hb3 hw3
 by_cases h3:ck=3
 ·subst h3
  exact chkK3 r (by rw [HR.out];simp [cmdB,l1,l2]) a3 ⟨hf3.1,hf3.2.1,hf3.2.2.1,hf3.2.2.2.1,hf3.2.2.2.2.1,trivial⟩ hb3 (HO.out.below hbw3) hz2 e8 hw3
 by_cases h4:ck=4
 ·subst h4
  exact chkK4 r (by rw [HR.out];simp [cmdB,l1,l2]) a3 ⟨hf3.1,hf3.2.1,hf3.2.2.1,hf3.2.2.2.1,hf3.2.2.2.2.1,hf3.2.2.2.2.2.1,hf3.2.2.2.2.2.2.1,trivial⟩ hb3 hw3
 by_cases h5:ck=5
 ·subst h5
  exact chkK5 r (by rw [HR.out];simp [cmdB,l1,l2]) a3 ⟨hf3.1,hf3.2.1,hf3.2.2.1,hf3.2.2.2.1,hf3.2.2.2.2.1,hf3.2.2.2.2.2.1,hf3.2.2.2.2.2.2.1,trivial⟩ hb3 hw3
 exact chkKO r (by rw [HR.out];simp [cmdB,h0,h1,h2,h3,h4,h5]) (beq_eq_false_iff_ne.2 h0) (beq_eq_false_iff_ne.2 h1) (beq_eq_false_iff_ne.2 h2) (beq_eq_false_iff_ne.2 h3) (beq_eq_false_iff_ne.2 h4) (beq_eq_false_iff_ne.2 h5) a3 ⟨hf3.1,hf3.2.1,hf3.2.2.1,hf3.2.2.2.1,trivial⟩ hb3 hw3
end Go.Proofs.Ytaipgdhdfpemcaa
