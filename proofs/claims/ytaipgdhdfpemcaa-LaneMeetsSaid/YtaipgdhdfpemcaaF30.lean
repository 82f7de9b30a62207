/- THE WALKS OF THE LANE, part 30. -/
import Derived.Test.YtaipgdhdfpemcaaF24
import Derived.Test.YtaipgdhdfpemcaaF28
import Derived.Test.YtaipgdhdfpemcaaF29
namespace Go.Proofs.Ytaipgdhdfpemcaa
set_option linter.all false
open Go.RowKit Go.Proofs.Try
set_option maxRecDepth 100000
set_option maxHeartbeats 4000000
section
variable {os:List OpC} {b c k n:Nat} {S:Nat->Prop} {A:O} {o:OpC} {x1 x2 x3 x4 x5:Value}
theorem take_snoc (h:os[k]? = some o):os.take (k+1)=os.take k++[o]:=by
 rw [List.take_add_one,h]
 rfl
theorem rholder_any (w:World) (hb:Blk w b 62 #[.slice A n c,x1,x2,x3,x4,x5]) (ho:OpsIs w S A n c os) (hn:n<=4294967296) :
 Calls prog 63 #[.pointer (some ⟨b,0,none⟩)] w fun x w'=>x=.returned (.agg #[.int .i64 (holderC os).1,.int .i64 (holderC os).2])/\Below w w w':=by
 have hlen:=ho.len
 have hlt:=hb.lt
 have hb0:Below w w ((w.alloc (.cells #[.int .i64 0,.int .i64 0] 93)).alloc (.cells #[.int .i64 0,.int .i64 0] 93)):=((Below.refl _ _).alloc (Nat.le_refl _) _).alloc (by simp) _
 have hr0:Blk ((w.alloc (.cells #[.int .i64 0,.int .i64 0] 93)).alloc (.cells #[.int .i64 0,.int .i64 0] 93)) w.heap.size 93 #[.int .i64 0,.int .i64 0]:=(Blk.new w 93 #[.int .i64 0,.int .i64 0]).below ((Below.refl _ _).alloc (Nat.le_refl _) _) (by simp)
 have hg0:Blk ((w.alloc (.cells #[.int .i64 0,.int .i64 0] 93)).alloc (.cells #[.int .i64 0,.int .i64 0] 93)) (w.heap.size+1) 93 #[.int .i64 0,.int .i64 0]:=by
  have:=Blk.new (w.alloc (.cells #[.int .i64 0,.int .i64 0] 93)) 93 #[.int .i64 0,.int .i64 0]
  simpa using this
 obtain⟨HB0,HR0,HG0,HB,HO,HL⟩:=J6 hb0 hr0 hg0 hb ho hlen
 clear hb0 hr0 hg0 hb ho hlen
 go_enter func63,ntmps63
 go_wp2_with fail
 go_loopw [4] (fun i wr=>∃ k:Nat,k<=n/\i=.int .i64 k/\Blk wr (w.heap.size+1) 93 #[.int .i64 (holderC (os.take k)).1,.int .i64 (holderC (os.take k)).2]/\Blk wr w 93 #[.int .i64 0,.int .i64 0]/\Below w w wr) (fun i _=>n-(intOf i).toNat)
 case atStart=>exact⟨0,by omega,rfl,HG0.out,HR0.out,HB0.out⟩
 case round=>
  obtain⟨k,hk,rfl,hg,hr,hbw⟩:=hrel
  have hkb:=HB.out.below hbw hlt
  have ho:=HO.out.below hbw
  obtain⟨HG,HR,HBW⟩:=J3 hg hr hbw
  have c0:=hkb.c1 0
  rcases Nat.lt_or_ge k n with hk1|hk1
  ·obtain⟨ad,o,hA,hn1,hc1,rfl,hab,hck,hop,hss⟩:=ho.at_ hk1
   have HT:=J (take_snoc hck)
   obtain⟨k0,k1,k2,k3,k4,k5,k6,k7,k8⟩:=hop
   simp only [OpC.at_] at k0 k1 k2 k3 k4 k5 k6 k7 k8
   obtain⟨g0,g1⟩:=hg.cs 0 2
   have f0:wr.frozen? ⟨w.heap.size+1,0,none⟩=false:=hg.frozen 0
   have f1:wr.frozen? ⟨w.heap.size+1,1,none⟩=false:=hg.frozen 1
   have b1:(0:Int)<=(k:Int):=by omega
   have b2:(k:Int)<(n:Int):=by omega
   have dk:decide ((k:Int)<(n:Int))=true:=decide_eq_true b2
   have HOK:=J hck
   clear hss hck hab hg hr hbw hkb ho k0 k4 k5 k6 k7 k8
   by_cases hk3:o.kind=3
   ·have xk:(o.kind==3)=true:=beq_iff_eq.2 hk3
    have HK:=J hk3
    clear hk3
    go_wp2_with fail
    go_region
    go_wp2_with fail
    go_roundw
    case rel=>
     refine⟨k+1,by omega,by go_num,?_,?_,?_⟩
     ·rw [HT.out,holderC_snoc,if_pos HK.out]
      exact set2 HG.out _ _
     ·exact (HR.out.far (by simp) _).far (by simp) _
     ·exact ((HBW.out.setCell (by simp) _).setCell (by simp) _).drew
    case measure=>simp [intOf];omega
   ·have xk:(o.kind==3)=false:=beq_eq_false_iff_ne.2 hk3
    have HK:=J hk3
    clear hk3
    go_wp2_with fail
    go_roundw
    case rel=>
     refine⟨k+1,by omega,by go_num,?_,HR.out,HBW.out⟩
     rw [HT.out,holderC_snoc,if_neg HK.out]
     exact HG.out
    case measure=>simp [intOf];omega
  ·obtain rfl:n=k:=by omega
   have hall:os.take n=os:=List.take_of_length_le (by rw [HL.out];exact Nat.le_refl _)
   rw [hall] at hg
   obtain⟨g0,g1⟩:=hg.cs 0 2
   obtain⟨r0,r1⟩:=hr.cs 0 2
   have f0:wr.frozen? ⟨w.heap.size,0,none⟩=false:=hr.frozen 0
   have f1:wr.frozen? ⟨w.heap.size,1,none⟩=false:=hr.frozen 1
   have dk:decide ((n:Int)<(n:Int))=false:=decide_eq_false (by omega)
   have e0:=(set2 hr (.int .i64 (holderC os).1) (.int .i64 (holderC os).2)).cell 0
   have e1:=(set2 hr (.int .i64 (holderC os).1) (.int .i64 (holderC os).2)).cell 1
   simp at e0 e1
   obtain⟨E0,E1⟩:=J2 e0 e1
   clear hg hr hbw hkb ho e0 e1
   go_wp2_with fail
   refine bodyPost_ret (v:=.agg #[.int .i64 (holderC os).1,.int .i64 (holderC os).2]) (by simp [results,results63,go_sem,E0.out,E1.out]) rfl ?_
   exact⟨rfl,(HBW.out.setCell (by simp) _).setCell (by simp) _⟩
end
theorem rsheet12_any {b:Nat} {A:O} {n c:Nat} {os:List OpC} {S:Nat->Prop} {x1 x2 x3 x4 x5:Value} (s:ByteArray) (w:World) (hb:Blk w b 62 #[.slice A n c,x1,x2,x3,x4,x5]) (ho:OpsIs w S A n c os) (hn:n<=4294967296) :
 Calls prog 94 #[.pointer (some ⟨b,0,none⟩),.string s] w fun x w'=>∃ z A' n' c',x=.returned (.tuple #[.agg #[.int .i64 z,.slice A' n' c'],.bool (liveC os s).isSome])/\((liveC os s).isSome=true->z=sizeC os s)/\Below w w w':=by
 have hlen:=ho.len
 have hlt:=hb.lt
 have hb0:Below w w (w.alloc (.cells #[.int .i64 0,.slice none 0 0] 43)):=(Below.refl _ _).alloc (Nat.le_refl _) _
 have hr0:=Blk.new w 43 #[.int .i64 0,.slice none 0 0]
 obtain⟨HB0,HR0,HB,HO,HL⟩:=J5 hb0 hr0 hb ho hlen
 have w0:wrap64 ((n:Int)-1)=(n:Int)-1:=wrap_id (by omega)
 clear hb0 hr0 hb ho hlen
 have d0:=(HB.out.below HB0.out hlt).cell 0
 simp at d0
 go_enter func94,ntmps94
 go_wp2_with fail
 go_loopw [6] (fun i wr=>∃ k:Nat,k<=n/\i=.int .i64 ((k:Int)-1)/\lastOp os s=lastOp (os.take k) s/\Blk wr w 43 #[.int .i64 0,.slice none 0 0]/\Below w w wr) (fun i _=>(intOf i+1).toNat)
 case atStart=>exact⟨n,Nat.le_refl _,rfl,by rw [List.take_of_length_le (by rw [HL.out];exact Nat.le_refl _)],HR0.out,HB0.out⟩
 case round=>
  obtain⟨k,hk,rfl,hla,hr,hbw⟩:=hrel
  have hkb:=HB.out.below hbw hlt
  have ho:=HO.out.below hbw
  obtain⟨HLA,HR,HBW⟩:=J3 hla hr hbw
  have c0:=hkb.c1 0
  obtain⟨r0,r1⟩:=hr.cs 0 2
  have f0:wr.frozen? ⟨w.heap.size,0,none⟩=false:=hr.frozen 0
  have f1:wr.frozen? ⟨w.heap.size,1,none⟩=false:=hr.frozen 1
  rcases k with _|j
  ·have hnone:lastOp os s=none:=HLA.out
   have hl:liveC os s=none:=by unfold liveC;rw [hnone]
   have e0:=(set2 hr (.int .i64 0) (.slice none 0 0)).cell 0
   have e1:=(set2 hr (.int .i64 0) (.slice none 0 0)).cell 1
   simp at e0 e1
   obtain⟨E0,E1,HN⟩:=J3 e0 e1 hl
   clear hr hbw hkb ho hla e0 e1 hl hnone
   have ei:((0:Nat):Int)-1 = -1:=rfl
   rw [ei]
   go_wp2_with fail
   refine bodyPost_ret (v:=.tuple #[.agg #[.int .i64 0,.slice none 0 0],.bool false]) (by simp [results,results94,go_sem,E0.out,E1.out]) rfl ?_
   exact⟨0,none,0,0,by rw [HN.out];rfl,fun h=>(by rw [HN.out] at h;cases h),(HBW.out.setCell (by simp) _).setCell (by simp) _⟩
  ·obtain⟨ad,o,hA,hn1,hc1,rfl,hab,hck,hop,hss⟩:=ho.at_ (k:=j) (by omega)
   have hT:=take_snoc hck
   rw [hT,lastOp_snoc] at hla
   have HT:=J hla
   obtain⟨k0,k1,k2,k3,k4,k5,k6,k7,k8⟩:=hop
   simp only [OpC.at_] at k0 k1 k2 k3 k4 k5 k6 k7 k8
   have b1:(0:Int)<=(j:Int):=by omega
   have b2:(j:Int)<(n:Int):=by omega
   have dk:decide ((0:Int)<=(j:Int))=true:=decide_eq_true b1
   have wj:wrap64 ((j:Int)-1)=(j:Int)-1:=wrap_id (by omega)
   have HRW:=J hr
   clear hss hck hab hr hbw hkb ho k0 k1 k3 k4 k5 hT hla
   have ei:((j+1:Nat):Int)-1=(j:Int):=by omega
   rw [ei]
   by_cases hk3:o.kind=3
   ·have xk:(o.kind != 3)=false:=by rw [hk3];rfl
    have HN:Hid (lastOp os s=lastOp (os.take j) s):=J (by rw [HT.out,if_neg (by simp [hk3])])
    clear hk3
    exact Y159
   have xk:(o.kind != 3)=true:=bne_iff_ne.2 hk3
   by_cases hns:o.name=s
   ·have xn:(o.name.toList==s.toList)=true:=by rw [hns];exact beq_self_eq_true _
    have hlo:lastOp os s=some o:=by rw [HT.out,if_pos (by simp [hk3,hns])]
    have hli:liveC os s=if o.kind=1 then some o.size else none:=by unfold liveC;rw [hlo]
    have HLI:=J hli
    clear hk3 hns hlo hli
    by_cases hk1:o.kind=1
    ·have x1:(o.kind==1)=true:=beq_iff_eq.2 hk1
     have HK:=J hk1
     clear hk1
     go_wp2_with fail
     go_region
     have e0:=(set2 HRW.out (.int .i64 o.size) (.slice hA hn1 hc1)).cell 0
     have e1:=(set2 HRW.out (.int .i64 o.size) (.slice hA hn1 hc1)).cell 1
     simp at e0 e1
     go_wp2_with fail
     refine bodyPost_ret (v:=.tuple #[.agg #[o.size,.slice hA hn1 hc1],.bool true]) (by simp [results,results94,go_sem,e0,e1]) rfl ?_
     exact⟨o.size,hA,hn1,hc1,by rw [HLI.out,if_pos HK.out];rfl,fun _=>by unfold sizeC;rw [HLI.out,if_pos HK.out];rfl,((HBW.out.setCell (by simp) _).setCell (by simp) _).drew⟩
    ·have x1:(o.kind==1)=false:=beq_eq_false_iff_ne.2 hk1
     have HK:=J hk1
     clear hk1
     go_wp2_with fail
     go_region
     have e0:=(set2 HRW.out (.int .i64 o.size) (.slice hA hn1 hc1)).cell 0
     have e1:=(set2 HRW.out (.int .i64 o.size) (.slice hA hn1 hc1)).cell 1
     simp at e0 e1
     go_wp2_with fail
     refine bodyPost_ret (v:=.tuple #[.agg #[o.size,.slice hA hn1 hc1],.bool false]) (by simp [results,results94,go_sem,e0,e1]) rfl ?_
     exact⟨o.size,hA,hn1,hc1,by rw [HLI.out,if_neg HK.out];rfl,fun h=>(by rw [HLI.out,if_neg HK.out] at h;cases h),((HBW.out.setCell (by simp) _).setCell (by simp) _).drew⟩
   ·have xn:(o.name.toList==s.toList)=false:=beq_eq_false_iff_ne.2 fun h=>hns (toList_inj h)
    have HN:Hid (lastOp os s=lastOp (os.take j) s):=J (by rw [HT.out,if_neg (by simp [hns])])
    clear hk3 hns
    exact Y159
@[reducible] noncomputable def rmarkFF:Func:=Try.f50
theorem rmark6 {w:World} {g b3 b4:Nat} {fence st:Int} {pA:O} {pn pc:Nat} {lA:O} {ln lc:Nat} {kind epoch site:Int} {o:OpC} {hA:O} {hn hc:Nat} {after since:Int} {qA:O} {qn qc:Nat} {tag:Int} (Q:Z) (a:Act) (hfr:Fr 70 a [(0,g),(3,b3),(4,b4)])
 (hg:Blk w g 62 (rledC pA pn pc lA ln lc fence st)) (hb5:Blk w b3 47 (cmdC kind epoch site o hA hn hc after since qA qn qc tag))
 (hQ:∀ a',Fr 70 a' [(0,g),(3,b3),(4,b4)]->Q .normal a' (w.drew.setCell ⟨g,3,none⟩ (.int .i64 (max st after)))) :
 (part [1,1,1,1,0] (codeOf rmarkFF)).wp prog Q a w:=by
 have hg':Blk w.drew g 62 (rledC pA pn pc lA ln lc fence st):=hg
 have hb':Blk w.drew b3 47 (cmdC kind epoch site o hA hn hc after since qA qn qc tag):=hb5
 have HQ:=J hQ
 clear hg hb5 hQ
 obtain⟨w0,hw0⟩:∃ w0,w0=w.drew:=⟨_,rfl⟩
 rw [<-hw0] at hg' hb' HQ
 obtain⟨HG,HO⟩:=J2 hg' hb'
 clear hg' hb'
 refine gg hfr fun t=>?_
 generalize w=w1 at hw0 ⊢
 have HW0:=J hw0
 clear hw0
 refine wp_region_chain kr [10] (fun i=>match i with|0=>g|1=>g|2=>g|3=>.pointer (some ⟨g,3,none⟩)|4=>st|5=>.pointer (some ⟨b3,12,none⟩)|6=>after|7=>.int .i64 (max st after)|8=>g|9=>.pointer (some ⟨g,3,none⟩)|_=>undef) (OneS w0 (w0.setCell ⟨g,3,none⟩ (.int .i64 (max st after)))) (fun _ _=>true) kr kr kr kr ?hS ?hfree ?hlink ?hend
 case hS=>exact HW0.out.symm
 case hfree=>
  intro i o F U vs W ho hni hS hlen hlim hat hoff hd
  have e0:=oo 0 g
  have t0:=act_tmp e0
  have e3:=oo 3 b3
  have t3:=act_tmp e3
  obtain⟨qa,qb⟩:=J2 hat hd
  clear hat hoff hd
  match i with
  | 0|1|5=>
   exact Y51
  | 2=>
   cases ho
   have t55:=act_tmp (fev qa qb 1 55)
   exact vl ⟨rfl,rfl⟩
  | 3=>
   cases ho
   have t56:=act_tmp (fev qa qb 2 56)
   exact vl ⟨rfl,rfl⟩
  | 4=>
   cases ho
   have t57:=act_tmp (fev qa qb 3 57)
   exact Y206
  | 6=>
   cases ho
   have t59:=act_tmp (fev qa qb 5 59)
   obtain rfl:=hS.nil_ (hlim 0 10 rfl rfl)
   have d0:=HO.out.c1 12
   exact vl ⟨rfl,rfl⟩
  | 7=>
   cases ho
   have t58:=act_tmp (fev qa qb 4 58)
   have t60:=act_tmp (fev qa qb 6 60)
   exact wp_value' (.int .i64 (max st after)) W (by unfold execOp;go_simp;all_goals first|omega|exact IntWalk.i64_in _ (by omega)) ⟨rfl,rfl⟩
  | 8=>
   cases ho
   have t54:=act_tmp (fev qa qb 0 54)
   exact vl ⟨rfl,rfl⟩
  | 9=>
   cases ho
   have t62:=act_tmp (fev qa qb 8 62)
   exact vl ⟨rfl,rfl⟩
  | 10=>
   exact Y76
  | i+11=>exact absurd ho (by simp)
 case hlink=>
  intro k i o F U vs W hk ho hS hvl hat hoff hd
  have:=ot 0 g
  have:=ot 3 b3
  obtain⟨qa,qb⟩:=J2 hat hd
  clear hat hoff hd
  match k with
  | 0=>
   cases hk;cases ho;obtain rfl:=List.eq_nil_of_length_eq_zero hvl;have e63:=fev qa qb 9 63;have t63:=act_tmp e63;have e61:=fev qa qb 7 61;have t61:=act_tmp e61;obtain rfl:=hS;have d8:=HG.out.c1 3;have f8:=HG.out.frozen 3
   exact wp_skip' (W.setCell ⟨g,3,none⟩ (.int .i64 (max st after))) (by unfold execOp;go_simp) ⟨_,rfl,rfl⟩
  | k+1=>exact absurd hk (by simp)
 case hend=>
  exact Y33
section
variable {fence:Int} {os:List OpC} {B b3 b4 g k:Nat} {Y:Nat->Prop} {v0:Value} {w w2:World}
section
variable (kind epoch site:Int) (o:OpC) (hA:O) (hn hc:Nat) (after since:Int) (qA:O) (qn qc:Nat) (tag:Int)
include kind epoch site o hA hn hc after since qA qn qc tag
theorem rmark7 (G:Ending->World->Prop) (a:Act) (hfr:Fr 70 a [(0,v0),(3,b3),(4,b4)]) (h8:Blk w2 b4 50 #[.int .i64 0,.int .i64 0,.int .i64 0]) (hs:Blk w2 b3 47 (cmdC kind epoch site o hA hn hc after since qA qn qc tag)) (hG:∀ W,Kept (fun q=>q≠b4) w2 W->Below b4 w2 W->G (.returned (doneV 0 after since)) W) :
 (part [1,1,1,1,1] (codeOf rmarkFF)).wp prog (bodyPost prog rmarkFF G) a w2:=by
 obtain⟨s0,s1⟩:=hs.cs 12 2
 have HG:=J hG
 clear hs hG
 refine gg hfr fun t=>?_
 obtain⟨W,HWW,z0,z1,z2,HKK,HLL,y0,y1,y2,f0⟩:=de h8 0 after since
 clear h8
 go_wp2
 rw [<-HWW.out]
 refine dr 0 after since ?_
 exact HG.out _ HKK.out HLL.out
theorem rmark_any (h:RLedIs w B g Y k os fence) (hB:B<=w) (haf:1<=after/\after<=1000) :
 Calls prog 50 #[.pointer (some ⟨g,0,none⟩),.agg (cmdC kind epoch site o hA hn hc after since qA qn qc tag)] w fun x w'=>(∃ e n ep,x=.returned (doneV e n ep))/\RActed B g Y k os fence w w':=by
 have h0:=h
 obtain⟨pA,pn,pc,lA,ln,lc,st,hgb,hos⟩:=h.open_
 have hpn:=hos.len
 have hgl:=hgb.lt
 have hr80:=h.rows.len
 obtain⟨w1,hw1,hz1,hb1,h5,h8⟩:=two_boxes w (cmdC kind epoch site o hA hn hc after since qA qn qc tag)
 have hg1:=hgb.below hb1 hgl
 have ho1:=hos.below hb1
 obtain⟨HW,H8,HB1,HZ1,H0,HB,HG,H5,HOS⟩:=J9 hw1 h8 hb1 hz1 h0 hB hg1 h5 ho1
 have HPN:=J hpn
 have HHOLD:=J (rholder_any w1 hg1 ho1 (by omega))
 have HAF:=J haf
 have tail:∀ w2 nq (a:Act),Below w1 w1 w2->Fr 70 a [(0,g),(3,(w:Nat)),(4,(w.heap.size+1:Nat))]->(part [1,1,1,1] (codeOf rmarkFF)).wp prog (bodyPost prog rmarkFF fun x w'=>(∃ e n ep,x=.returned (doneV e n ep))/\RActed B g Y k os fence w w') a (w2.drewN nq):=by
  intro w2 nq a hb2' hfr
  have hb2:Below w1 w1 (w2.drewN nq):=below_drewN hb2' nq
  have hbw:=hb1.trans (hb2.mono (by omega))
  have hl2:=h.below hbw
  have s2:=hb2.size
  obtain⟨pA,pn,pc,lA,ln,lc,st,hgb,hos⟩:=hl2.open_
  refine Ytaipgdhdfpemcaa.w2 ?_
  have h52:=h5.below hb2 h5.lt
  have h82:=h8.below hb2 h8.lt
  refine rmark6 _ a hfr hgb h52 fun a2 hf2=>?_
  have hd:Below (w2.drewN nq).heap.size (w2.drewN nq) (w2.drewN nq).drew:=⟨rfl,rfl,rfl,Nat.le_refl _,fun _ _=>rfl⟩
  have hl3:=hl2.below hd
  have ha:=(hl3.set_ (by show B<=(w2.drewN nq).heap.size;omega)).2 (max st after)
  show (part [1,1,1,1,1] (codeOf rmarkFF)).wp prog _ a2 _
  refine rmark7 kind epoch site o hA hn hc after since qA qn qc tag _ a2 hf2 (h82.far (p:=⟨g,3,none⟩) (show w.heap.size+1≠g by omega) _) (h52.far (p:=⟨g,3,none⟩) (show w.heap.size≠g by omega) _) fun W hk hlw=>⟨⟨_,_,_,rfl⟩,?_⟩
  exact RActed.boxed h.1 hB (hbw.trans (hd.mono (by omega))) ha ⟨by omega,by show w.heap.size+1<(w2.drewN nq).heap.size;omega⟩ hk hlw
 have HT:=J tail
 clear h0 h hgb hos hpn hr80 hw1 hz1 hb1 h5 h8 hg1 ho1 hB haf tail
 obtain⟨hE,hS,hhold⟩:∃ hE hS,holderC os=(hE,hS):=⟨_,_,rfl⟩
 rw [hhold] at HHOLD
 clear hhold
 cases d1:(epoch != fence) with
 | true=>
  exact Y4
 | false=>
  cases d2:(hE != epoch) with
  | true=>
   exact Y4
  | false=>
   cases d3:(hS != site) with
   | true=>
    exact Y4
   | false=>
    go_enter func50,ntmps50
    conv=>arg 2;arg 2;arg 2;arg 2;arg 2;change part [1,1,1,1] (codeOf rmarkFF)
    go_wp2_with fail
    rw [<-HW.out]
    refine HHOLD.out.mono ?_
    rintro x w2 ⟨rfl,hb12⟩
    have h5:=H5.out.below hb12 H5.out.lt
    have hg:=HG.out.below hb12 HG.out.lt
    obtain⟨k1,k2⟩:=h5.cs 1 2
    obtain⟨k12,k13⟩:=h5.cs 12 2
    have g0:=hg.c1 0
    have g2:=hg.c1 2
    obtain⟨w3,hw3⟩:∃ w3,w3=w2.alloc (.cells #[.int .i64 hE,.int .i64 hS] 93):=⟨_,rfl⟩
    have hb23:Below w2 w2 w3:=by rw [hw3];exact (Below.refl _ _).alloc (Nat.le_refl _) _
    have hgr:Blk w3 w2 93 #[.int .i64 hE,.int .i64 hS]:=by rw [hw3];exact Blk.new _ _ _
    have hb13:Below w1 w1 w3:=hb12.trans (hb23.mono hb12.size)
    have h5:=H5.out.below hb13 H5.out.lt
    have hg:=HG.out.below hb13 HG.out.lt
    obtain⟨m1,m2⟩:=h5.cs 1 2
    obtain⟨m12,m13⟩:=h5.cs 12 2
    have n0:=hg.c1 0
    have n2:=hg.c1 2
    obtain⟨r0,r1⟩:=hgr.cs 0 2
    have HW3:=J hw3
    have K8:=J (H8.out.below hb13 H8.out.lt)
    have KB1:=J (HB1.out.trans (hb13.mono (by have:=HZ1.out;omega)))
    have KO:=J (HOS.out.below hb13)
    have KT:=J hb13
    clear h5 hg hw3 hb23 hgr hb12 hb13
    dsimp only
    go_wp2_with fail
    rw [<-HW3.out]
    go_quiet (fail)
    obtain⟨w4,hw4⟩:∃ w4,w4=w3.drewN nq:=⟨_,rfl⟩
    rw [<-hw4]
    have hb34:Below w3 w3 w4:=by rw [hw4];exact below_drewN (Below.refl _ _) _
    have hb14:=KT.out.trans (hb34.mono KT.out.size)
    have h5:=H5.out.below hb14 H5.out.lt
    have hg:=HG.out.below hb14 HG.out.lt
    clear m1 m2 m12 m13 n0 n2 k1 k2 k12 k13 g0 g2
    obtain⟨m12,m13⟩:=h5.cs 12 2
    have n0:=hg.c1 0
    have ho4:=KO.out.below hb34
    have L8:=J (K8.out.below hb34 K8.out.lt)
    have LB1:=J (KB1.out.trans (hb34.mono KB1.out.size))
    have LT:=J hb14
    clear hw4 hb34 hb14 h5 hg r0 r1 K8 KB1 KO KT
    obtain⟨j,hj⟩:∃ j:Nat,after=(j:Int)+1:=⟨(after-1).toNat,by have:=HAF.out;omega⟩
    by_cases q4:(pn:Int)<after
    ·have d4:decide ((pn:Int)<after)=true:=decide_eq_true q4
     clear q4 hj ho4
     exact Y63
    have d4:decide ((pn:Int)<after)=false:=decide_eq_false q4
    obtain⟨ad,x,xA,xn,xc,rfl,hab,hck,hop,hss⟩:=ho4.at_ (k:=j) (by omega)
    obtain⟨c0,c1,c2,c3,c4,c5,c6,c7,c8⟩:=hop
    simp only [OpC.at_] at c1
    have z1:IntKind.i64.wrap (after-1)=(j:Nat):=by rw [IntKind.wrap_i64];have:=HAF.out;omega
    have z2:(0:Int)<=(j:Nat):=by omega
    have z3:((j:Nat):Int)<((pn:Nat):Int):=by omega
    clear q4 hj ho4 hab hck hss c0 c2 c3 c4 c5 c6 c7 c8
    cases d5:(x.epoch != since) with
    | true=>
     exact Y63
    | false=>
     go_wp2_with fail
     go_quiet (fail)
     go_wp2_with fail
     exact HT.out _ _ _ LT.out ff
end
end
section
variable {w w1:World} {B g:Nat} {Y:Nat->Prop} {k:Nat} {os:List OpC} {fence:Int}
section
variable {cs:Array Value} {j pc pn:Nat} {pA:O} {v0 v3 v4:Value}
theorem rd4 (hg:Blk w1 g 62 cs) (hg0:cs[0]? = some (.slice pA pn pc)) (hpn:pn<=1000) (Q:Z) (a:Act) (hfr:Fr 144 a [(0,g),(3,v3),(4,v4)]) (hQ:∀ a',Fr 144 a' [(0,g),(3,v3),(4,v4),(6,.int .i64 ((pn:Int)-1))]->Q .normal a' w1):(part [1,1,1,0,0] (codeOf rdoFF)).wp prog Q a w1:=by
 have g0:=hg.cell 0
 rw [hg0] at g0
 have z1:IntKind.i64.wrap ((pn:Int)-1)=(pn:Int)-1:=by rw [IntKind.wrap_i64];omega
 have HQ:=J hQ
 clear hQ hg hg0 hpn
 exact Y13
theorem rd5_no (Q:Z) (a:Act) (hfr:Fr 144 a [(0,v0),(3,v3),(4,v4),(6,.int .i64 (-1))]) (hQ:∀ a',Fr 144 a' [(0,v0),(3,v3),(4,v4)]->Q (.exit 0) a' w1):(part [1,1,1,0,1,0,0,0] (codeOf rdoFF)).wp prog Q a w1:=by
 exact Y218
theorem rd5_yes (Q:Z) (a:Act) (hfr:Fr 144 a [(0,v0),(3,v3),(4,v4),(6,.int .i64 (j:Nat))]) (hQ:∀ a',Fr 144 a' [(0,v0),(3,v3),(4,v4),(6,.int .i64 (j:Nat))]->Q .normal a' w1):(part [1,1,1,0,1,0,0,0] (codeOf rdoFF)).wp prog Q a w1:=by
 have d1:decide ((0:Int)<=(j:Int))=true:=decide_eq_true (by omega)
 exact Y218
theorem rd6 (hj:j<=1000) (Q:Z) (a:Act) (hfr:Fr 144 a [(0,v0),(3,v3),(4,v4),(6,.int .i64 (j:Nat))]) (hQ:∀ a',Fr 144 a' [(0,v0),(3,v3),(4,v4),(6,.int .i64 ((j:Int)-1))]->Q .normal a' w1):(part [1,1,1,0,1,0,0,1,1] (codeOf rdoFF)).wp prog Q a w1:=by
 have z1:IntKind.i64.wrap ((j:Int)-1)=(j:Int)-1:=by rw [IntKind.wrap_i64];omega
 have HQ:=J hQ
 clear hQ hj
 exact Y13
end
def RdI (w w1:World) (g:Nat) (os:List OpC) (cl:Int) (pn:Nat) (a:Act) (W:World):Prop:=
 ∃ j:Nat,j<=pn/\Fr 144 a [(0,g),(3,(w:Nat)),(4,(w.heap.size+1:Nat)),(6,.int .i64 ((j:Int)-1))]/\Below w1 w1 W/\clientC os cl=clientC (os.take j) cl
def muRd (a:Act):Nat:=match at_ a.tmps 6 with|.int _ z=>(z+1).toNat|_=>0
theorem rdo_loop (kind epoch site:Int) (o:OpC) (hA:O) (hn hc:Nat) (after since:Int) (qA:O) (qn qc:Nat) (tag:Int) (h:RLedIs w B g Y k os fence) (hB:B<=w) (hz1:w.heap.size+2<=w1) (hb1:Below w w w1) (h5:Blk w1 w 47 (cmdC kind epoch site o hA hn hc after since qA qn qc tag)) (h8:Blk w1 (w.heap.size+1) 50 #[.int .i64 0,.int .i64 0,.int .i64 0]) (a:Act) (hfr:Fr 144 a [(0,g),(3,(w:Nat)),(4,(w.heap.size+1:Nat))]) {K:Act->World->Prop} {os':List OpC} (hK:turnB os o.client o.seq=true->∀ a' W,Fr 144 a' [(0,g),(3,(w:Nat)),(4,(w.heap.size+1:Nat))]->Below w1 w1 W->K a' W) (hos:turnB os o.client o.seq=false->os'=os) :
 (part [1,1,1,0] (codeOf rdoFF)).wp prog (Exit.then K (bodyPost prog rdoFF (fun x w'=>(∃ e n ep,x=.returned (doneV e n ep))/\RActed B g Y k os' fence w w'))) a w1:=by
 have h0:=h.below hb1
 obtain⟨pA,pn,pc,lA,ln,lc,st,hgb,hop⟩:=h0.open_
 have hpn:=hop.len
 have h80:=h.rows.len
 refine Ytaipgdhdfpemcaa.w2 ?_
 refine rd4 hgb rfl (by omega) _ a hfr fun a1 hf1=>?_
 show (part [1,1,1,0,1] (codeOf rdoFF)).wp prog (Exit.then K _) a1 w1
 have round:∀ (Q:Z) (hexit:turnB os o.client o.seq=true->∀ a' W,Fr 144 a' [(0,g),(3,(w:Nat)),(4,(w.heap.size+1:Nat))]->Below w1 w1 W->Q (.exit 0) a' W) (hret:∀ a W,bodyPost prog rdoFF (fun x w'=>(∃ e n ep,x=.returned (doneV e n ep))/\RActed B g Y k os' fence w w') .ret a W->Q .ret a W)
  (a:Act) (W:World),RdI w w1 g os o.client pn a W->(∀ a' W',RdI w w1 g os o.client pn a' W'/\muRd a'<muRd a->Q .normal a' W')->(part [1,1,1,0,1,0,0] (codeOf rdoFF)).wp prog Q a W:=by
  intro Q hexit hret a W hI hQ
  obtain⟨j,hj,hf,hb,hcl⟩:=hI
  refine Ytaipgdhdfpemcaa.w2 ?_
  rcases j with _|j
  ·refine rd5_no _ a hf fun a2 hf2=>?_
   refine hexit ?_ a2 W hf2 hb
   unfold turnB
   rw [hcl]
   rfl
  ·have e1:((j+1:Nat):Int)-1=(j:Nat):=by omega
   rw [e1] at hf
   refine rd5_yes _ a hf fun a2 hf2=>?_
   show (part [1,1,1,0,1,0,0,1] (codeOf rdoFF)).wp prog Q a2 W
   have hb1W:=hb1.trans (hb.mono (by omega))
   obtain⟨ad,x,xA,xn,xc,rfl,hab,hck,hopx,hss⟩:=(hop.below hb).at_ (k:=j) (by omega)
   rw [take_snoc hck,clientC_snoc] at hcl
   have hs:=hb.size
   have hgW:=hgb.below hb hgb.lt
   have h5W:=h5.below hb h5.lt
   have h8W:=h8.below hb h8.lt
   have next:∀ a3 W3,Fr 144 a3 [(0,g),(3,(w:Nat)),(4,(w.heap.size+1:Nat)),(6,.int .i64 (j:Nat))]->Below W W W3->clientC os o.client=clientC (os.take j) o.client->(part [1,1,1,0,1,0,0,1,1] (codeOf rdoFF)).wp prog Q a3 W3:=by
    intro a3 W3 hf3 hb3 hc3
    refine rd6 (by omega) _ a3 hf3 fun a4 hf4=>hQ a4 W3 ⟨⟨j,by omega,hf4,hb.trans (hb3.mono hs),hc3⟩,?_⟩
    have q1:at_ a.tmps 6=.int .i64 (j:Nat):=hf.2.2.2.2.2.1
    have q2:at_ a4.tmps 6=.int .i64 ((j:Int)-1):=hf4.2.2.2.2.2.1
    unfold muRd
    rw [q1,q2]
    simp only
    omega
   refine Ytaipgdhdfpemcaa.w2 ?_
   refine wp_blk (x:=part [1,1,1,0,1,0,0,1,0,0] (codeOf rdoFF)) (id:=1) kr ?_
   by_cases c1:x.kind=3
   ·rw [if_neg fun hh=>hh.1 c1] at hcl
    exact rdb1 kind epoch site o hA hn hc after since qA qn qc tag h hB (by omega) hb1W h5W h8W hgW rfl (by omega) hopx (beq_iff_eq.2 c1) a2 hf2 _ fun a3 W3 hf3 hb3=>next a3 W3 hf3 hb3 hcl
   have e1:(x.kind==3)=false:=beq_eq_false_iff_ne.2 c1
   by_cases c2:x.client=o.client
   ·have e2:(x.client != o.client)=false:=by simp [c2]
    rw [if_pos ⟨c1,c2⟩] at hcl
    have ht:turnB os o.client o.seq=decide (x.seq<o.seq):=by unfold turnB;rw [hcl]
    by_cases c3:o.seq<x.seq
    ·obtain rfl:=hos (by rw [ht];exact decide_eq_false (by omega))
     exact rdb4 kind epoch site o hA hn hc after since qA qn qc tag h hB (by omega) hb1W h5W h8W hgW rfl (by omega) hopx e1 e2 (decide_eq_true c3) a2 hf2 _ fun a3 W3 hh=>hret a3 W3 hh
    ·by_cases c4:x.seq=o.seq
     ·obtain rfl:=hos (by rw [ht];exact decide_eq_false (by omega))
      exact rdb5 kind epoch site o hA hn hc after since qA qn qc tag h hB (by omega) hb1W h5W h8W hgW rfl (by omega) hopx e1 e2 (decide_eq_false c3) (beq_iff_eq.2 c4) a2 hf2 _ fun a3 W3 hh=>hret a3 W3 hh
     ·exact rdb3 kind epoch site o hA hn hc after since qA qn qc tag h hB (by omega) hb1W h5W h8W hgW rfl (by omega) hopx e1 e2 (decide_eq_false c3) (beq_eq_false_iff_ne.2 c4) a2 hf2 _ fun a3 W3 hf3 hb3=>hexit (by rw [ht];exact decide_eq_true (by omega)) a3 W3 ⟨hf3.1,hf3.2.1,hf3.2.2.1,hf3.2.2.2.1,hf3.2.2.2.2.1,trivial⟩ (hb.trans (hb3.mono hs))
   ·have e2:(x.client != o.client)=true:=by simp [c2]
    rw [if_neg fun hh=>c2 hh.2] at hcl
    exact rdb2 kind epoch site o hA hn hc after since qA qn qc tag h hB (by omega) hb1W h5W h8W hgW rfl (by omega) hopx e1 e2 a2 hf2 _ fun a3 W3 hf3 hb3=>next a3 W3 hf3 hb3 hcl
 refine wp_blk (x:=part [1,1,1,0,1,0] (codeOf rdoFF)) (id:=0) kr ?_
 have el:part [1,1,1,0,1,0] (codeOf rdoFF)=Code.loop (part [1,1,1,0,1,0,0] (codeOf rdoFF)):=by kernel_rfl
 rw [el]
 refine wp_loop (RdI w w1 g os o.client pn) (fun a _=>muRd a) ⟨pn,Nat.le_refl _,hf1,Below.refl _ _,by rw [List.take_of_length_le (by omega)]⟩ fun a2 w2 hI=>?_
 refine round _ ?_ ?_ a2 w2 hI ?_
 ·intro ht a' W h1 h2
  exact hK ht a' W h1 h2
 ·exact fun a W hh=>hh
 ·exact fun a' w' hh=>hh
end
end Go.Proofs.Ytaipgdhdfpemcaa
