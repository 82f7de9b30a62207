/- THE WALKS OF THE LANE, part 34. -/
import Derived.Test.YtaipgdhdfpemcaaF24
import Derived.Test.YtaipgdhdfpemcaaF28
import Derived.Test.YtaipgdhdfpemcaaF29
namespace Go.Proofs.Ytaipgdhdfpemcaa
set_option linter.all false
open Go.RowKit Go.Proofs.Try
set_option maxRecDepth 100000
set_option maxHeartbeats 4000000
section
variable {w wb W:World} {B g:Nat} {Y S:Nat->Prop} {k:Nat} {os:List OpC} {epoch0:Int} {kind epoch site:Int} {o:OpC} {hA:O} {hn hc:Nat} {after since:Int} {qA:O} {qn qc:Nat} {tag:Int} {ops:List OpC} {N E:Int}
section
variable {K:Act->World->Prop} {os':List OpC}
section
variable (h:ShipAt w wb W B g Y S k os epoch0 (cmdC kind epoch site o hA hn hc after since qA qn qc tag) qA qn qc ops N E)
include h
theorem sh5 (hN:0<=N/\N<=4294967296) (a:Act) (hfr:Fr 147 a [(0,g),(3,(w:Nat)),(4,(w.heap.size+1:Nat)),(5,(w.heap.size+2:Nat))]) (hK:hasL os N E=true->∀ a' W',Fr 147 a' [(0,g),(3,(w:Nat)),(4,(w.heap.size+1:Nat)),(5,(w.heap.size+2:Nat))]->Below W W W'->K a' W') (hos:hasL os N E=false->os'=os) :
 (part [1,1,1,1,0] (codeOf shipLF)).wp prog (Exit.then K (bodyPost prog shipLF fun e w'=>(∃ u n ep,e=.returned (doneV u n ep))/\Acted B g Y k os' epoch0 w w')) a W:=by
 obtain⟨m1,m2,pA,pn,pc,lA,ln,lc,settled,hgb,hops,hlive,hlast⟩:=h.led.open_
 obtain⟨s0,s1⟩:=h.hs.cs 0 2
 obtain⟨HS,HK,HO⟩:=J3 h hK hos
 have HC:=J (ledHas_any N E W hgb rfl hops hN)
 clear h hK hos hgb hops hlive hlast
 refine gg hfr fun t=>?_
 go_wp2_with fail
 refine HC.out.mono ?_
 rintro e w1 ⟨rfl,hb1⟩
 have HB1:=J hb1
 clear hb1
 dsimp only
 cases hh:hasL os N E with
 | true=>
  have HH:=J hh
  clear hh
  go_wp2_with fail
  exact HK.out HH.out _ _ ff HB1.out
 | false=>
  obtain rfl:=HO.out hh
  clear hh HO HK
  go_wp2_with fail
  refine (failed_any _ _).mono ?_
  rintro e w2 ⟨rfl,hb2⟩
  have hs2:=(HS.out.below HB1.out).below hb2
  have h82:=hs2.h8
  obtain⟨Wz,HWW,z0,z1,z2,HKK,HLL,y0,y1,y2,f0⟩:=de h82 121 0 0
  have HH:=J hs2
  clear hb2 hs2
  exact Y177
theorem sh_d (hrow:rowB N E ops=true) (hk:k<=900000) (hqn:qn<=1000) (a:Act) (hfr:Fr 147 a [(0,g),(3,(w:Nat)),(4,(w.heap.size+1:Nat)),(5,(w.heap.size+2:Nat))]) :
 (part [1,1,1,1] (codeOf shipLF)).wp prog (bodyPost prog shipLF fun e w'=>(∃ u n ep,e=.returned (doneV u n ep))/\Acted B g Y (k+80) (if hasL os N E=true then shipTo os ops else os) epoch0 w w') a W:=by
 have hops:∀ x∈ops,opB x=true:=by
  intro x hx
  obtain⟨i,hi⟩:=List.getElem?_of_mem hx
  unfold rowB at hrow
  simp only [Bool.and_eq_true] at hrow
  exact (rowFrom_at hrow.2 hi).2
 have hN:0<=N/\N<=4294967296:=by
  exact Y209
 refine w2p fun K hK=>?_
 refine sh5 (h.more (Nat.le_add_right k 80)) hN a hfr (fun hh a2 w2 hf2 hb2=>hK a2 w2 ?_) fun hh=>by rw [if_neg (by rw [hh];exact Bool.false_ne_true)]
 rw [if_pos hh]
 have h2:=h.below hb2
 refine Ytaipgdhdfpemcaa.w2 ?_
 refine sh7 _ a2 hf2 fun a3 hf3=>?_
 show (part [1,1,1,1,1,1] (codeOf shipLF)).wp prog _ a3 w2
 refine Ytaipgdhdfpemcaa.w2 ?_
 refine sh_loop h2 hops hqn _ a3 hf3 fun a4 w4 hf4 h4=>?_
 show (part [1,1,1,1,1,1,1] (codeOf shipLF)).wp prog _ a4 w4
 refine Ytaipgdhdfpemcaa.w2 ?_
 refine sh10 h4 hqn _ a4 hf4 fun a5 w5 N' E' hf5 h5=>?_
 exact sh_tail h5 hrow hh hk a5 hf5
end
end
end
theorem ship_any {w:World} {B g:Nat} {Y S:Nat->Prop} {k:Nat} {os:List OpC} {fence:Int} (kind epoch site:Int) (o:OpC) (hA:O) (hn hc:Nat) (after since:Int) (qA:O) (qn qc:Nat) (tag:Int) (ops:List OpC) (h:LedIs w B g Y k os fence) (hB:B<=w) (hops:OpsIs w S qA qn qc ops) (hS:∀ b,S b->¬ Y b) (hrow:rowB after since ops=true) (hk:k<=900000) (hqn:qn<=1000) :
 Calls prog 44 #[.pointer (some ⟨g,0,none⟩),.agg (cmdC kind epoch site o hA hn hc after since qA qn qc tag)] w fun x w'=>(∃ e n ep,x=.returned (doneV e n ep))/\Acted B g Y (k+80) (if shipsB os fence ⟨kind,epoch,site,o,after,since,ops,tag⟩=true then (shipOs os ⟨kind,epoch,site,o,after,since,ops,tag⟩,epoch) else (os,fence)).1 (if shipsB os fence ⟨kind,epoch,site,o,after,since,ops,tag⟩=true then (shipOs os ⟨kind,epoch,site,o,after,since,ops,tag⟩,epoch) else (os,fence)).2 w w':=by
 have h0:=h
 obtain⟨m1,m2,pA,pn,pc,lA,ln,lc,settled,hgb,hos,hlive,hlast⟩:=h.open_
 have hpn:=hos.len
 have hgl:=hgb.lt
 obtain⟨w1,hw1,hz1,hb1,h5,h8⟩:=two_boxes w (cmdC kind epoch site o hA hn hc after since qA qn qc tag)
 have hg1:=hgb.below hb1 hgl
 have ho1:=hos.below hb1
 obtain⟨HW,H8,HB1,HZ1,H0⟩:=J5 hw1 h8 hb1 hz1 h0
 have H1:=J (h0.below hb1)
 obtain⟨HB,HG,H5,HOS,HPN⟩:=J5 hB hg1 h5 ho1 hpn
 obtain⟨g3,g4⟩:=hg1.cs 3 2
 have g7:=hg1.c1 7
 obtain⟨k1,k2⟩:=h5.cs 1 2
 obtain⟨k12,k13⟩:=h5.cs 12 2
 have f7:=hg1.frozen 7
 have hd:∀ nq (a:Act),Fr 147 a [(0,g),(3,(w:Nat)),(4,(w.heap.size+1:Nat)),(5,(w.heap.size+2:Nat))]->(part [1,1,1,1] (codeOf shipLF)).wp prog (bodyPost prog shipLF fun e w'=>(∃ u n ep,e=.returned (doneV u n ep))/\Acted B g Y (k+80) (if hasL os after since=true then shipTo os ops else os) epoch w w') a (((w1.drewN nq).setCell ⟨g,7,none⟩ (.int .i64 epoch)).alloc (.cells #[after,since] 26)):=by
  intro nq a hfr
  have hq:Below w1 w1 (w1.drewN nq):=below_drewN (Below.refl _ _) _
  have hl1:LedIs (w1.drewN nq) B g Y k os fence:=(h.below hb1).below hq
  have hBq:B<=(w1.drewN nq).heap.size:=by show B<=w1;omega
  have ha:=hl1.fence_ epoch hBq
  obtain⟨w2,hw2⟩:∃ w2,w2=(w1.drewN nq).setCell ⟨g,7,none⟩ (.int .i64 epoch):=⟨_,rfl⟩
  rw [<-hw2] at ha ⊢
  obtain⟨w3,hw3⟩:∃ w3,w3=w2.alloc (.cells #[after,since] 26):=⟨_,rfl⟩
  rw [<-hw3]
  have hz2:w2.heap.size=w.heap.size+2:=by rw [hw2];simp;exact hz1
  have hz3:w3.heap.size=w.heap.size+3:=by rw [hw3];simp;omega
  have hb23:Below w2 w2 w3:=by rw [hw3];exact (Below.refl _ _).alloc (Nat.le_refl _) _
  have hgn:∀ i,i<2->w.heap.size+i≠g:=fun i _=>by omega
  have hk12:Kept (fun b=>b≠g) w1 w2:=by rw [hw2];exact ((Kept.refl _ _).drewN nq).set_ ⟨g,7,none⟩ (.inl fun h=>h rfl) _
  have hk13:Kept (fun b=>b≠g) w1 w3:=hk12.below hb23
  have hYg:=h.gY
  have hs3:Blk w3 (w.heap.size+2) 26 #[after,since]:=by
   have:=Blk.new w2 26 #[after,since]
   rw [hz2,<-hw3] at this
   exact this
  have hNY:∀ b,New Y (w1.drewN nq) w2 b->Y b:=fun b hb=>hb.elim id fun hb=>by
   have e:(w1.drewN nq).heap.size=w1.heap.size:=rfl
   omega
  have h3:ShipAt w w3 w3 B g Y (fun b=>S b/\b<w) k os epoch (cmdC kind epoch site o hA hn hc after since qA qn qc tag) qA qn qc ops after since:=by
   refine⟨h.1,hB,by omega,Nat.le_refl _,?_,?_,?_,(hk13.2 _ (hgn 1 (by omega)) (by omega)).trans h8,(hk13.2 _ (hgn 0 (by omega)) (by omega)).trans h5,hs3,?_,fun b hb=>⟨hS b hb.1,hb.2⟩⟩
   ·exact (ha.1.below hb23).mono (fun b _ hb=>.inl (hNY b hb)) (New.lt (fun b hb=>⟨(h.1 b hb).1,by have:=(h.1 b hb).2;omega⟩) (by omega) (Nat.le_refl _))
   ·exact⟨by omega,fun b hb hlt=>(hk13.2 b (fun e=>hb (e▸hYg)) (by omega)).trans (hb1.block b hlt)⟩
   ·exact ((hb1.mono hB).trans (by rw [hw2];exact (below_drewN (Below.refl _ _) nq).setCell (p:=⟨g,7,none⟩) (h.1 g hYg).1 _)).trans (hb23.mono (by omega))
   ·refine ((hops.mono (S':=fun b=>S b/\b<w) fun b hb hx=>⟨hx,hb⟩).below hb1).kept (hk13.mono fun b _ hx e=>hS b hx.1 (e▸hYg))
  exact sh_d h3 hrow hk hqn a hfr
 have he:∀ b,shipsB os fence ⟨kind,epoch,site,o,after,since,ops,tag⟩=b->(if shipsB os fence ⟨kind,epoch,site,o,after,since,ops,tag⟩=true then (shipOs os ⟨kind,epoch,site,o,after,since,ops,tag⟩,epoch) else (os,fence))=if b=true then (if hasL os after since=true then shipTo os ops else os,epoch) else (os,fence):=fun b hb=>by rw [hb];rfl
 obtain⟨hE,hS',hhold⟩:∃ hE hS,holderC os=(hE,hS):=⟨_,_,rfl⟩
 have hsb:shipsB os fence ⟨kind,epoch,site,o,after,since,ops,tag⟩ = !(decide (epoch<fence)||(decide (epoch=hE)&&!decide (site=hS'))):=by unfold shipsB;rw [hhold]
 rw [hhold] at g3 g4
 simp only at g3 g4
 obtain⟨HD,HSB,HE⟩:=J3 hd hsb he
 clear hd hops hS hrow hqn hsb he
 clear h0 h hgb hos hpn hlive hlast hw1 hz1 hb1 h5 h8 hg1 ho1 hB hhold
 by_cases q1:epoch<fence
 ·have d1:decide (epoch<fence)=true:=decide_eq_true q1
  have hb:shipsB os fence ⟨kind,epoch,site,o,after,since,ops,tag⟩=false:=by rw [HSB.out];rw [d1];rfl
  rw [HE.out _ hb]
  rw [if_neg Bool.false_ne_true]
  clear hb q1
  exact Y25
 have d1:decide (epoch<fence)=false:=decide_eq_false q1
 by_cases q2:epoch=hE
 ·have d2:(epoch==hE)=true:=beq_iff_eq.2 q2
  by_cases q3:site=hS'
  ·have d3:(site != hS')=false:=by simp [q3]
   have hb:shipsB os fence ⟨kind,epoch,site,o,after,since,ops,tag⟩=true:=by rw [HSB.out];rw [d1,decide_eq_true q2,decide_eq_true q3];rfl
   rw [HE.out _ hb]
   rw [if_pos rfl]
   clear hb q1 q2 q3
   exact Y72
  ·have d3:(site != hS')=true:=by simp [q3]
   have hb:shipsB os fence ⟨kind,epoch,site,o,after,since,ops,tag⟩=false:=by rw [HSB.out];rw [d1,decide_eq_true q2,decide_eq_false q3];rfl
   rw [HE.out _ hb]
   rw [if_neg Bool.false_ne_true]
   clear hb q1 q2 q3
   exact Y25
 ·have d2:(epoch==hE)=false:=beq_eq_false_iff_ne.2 q2
  have hb:shipsB os fence ⟨kind,epoch,site,o,after,since,ops,tag⟩=true:=by rw [HSB.out];rw [d1,decide_eq_false q2];rfl
  rw [HE.out _ hb]
  rw [if_pos rfl]
  clear hb q1 q2
  exact Y72
@[reducible] noncomputable def applyLF:Func:=Try.f13
theorem ap1 {w:World} {B g:Nat} {Y S:Nat->Prop} {k:Nat} {os:List OpC} {fence:Int} {w2:World} {R:List OpC×Int} (kind epoch site:Int) (o:OpC) (hA:O) (hn hc:Nat) (after since:Int) (qA:O) (qn qc:Nat) (tag:Int) (ops:List OpC) (h:LedIs w B g Y k os fence) (hB:B<=w) (hb:Below w w w2) (hz:w.heap.size+2<=w2) (h5:Blk w2 w 47 (cmdC kind epoch site o hA hn hc after since qA qn qc tag)) (h8:Blk w2 (w.heap.size+1) 50 #[.int .i64 0,.int .i64 0,.int .i64 0])
 (hs:StrIs w S hA hn hc o.hs) (hf:Fits o) (hnew:os.length<64->opB (newOp os o epoch site)=true) (d1:(kind==1)=true) (hR:R=(if doesB os fence ⟨kind,epoch,site,o,after,since,ops,tag⟩=true then os++[newOp os o epoch site] else os,fence)) (a:Act) (hfr:Fr 40 a [(0,g),(3,(w:Nat)),(4,(w.heap.size+1:Nat))]) :
 (part [1,1,1] (codeOf applyLF)).wp prog (bodyPost prog applyLF fun x w'=>(∃ e n ep,x=.returned (doneV e n ep))/\Acted B g Y (k+80) R.1 R.2 w w') a w2:=by
 obtain⟨K8,KB1,KZ1⟩:=J3 h8 hb hz
 have KL:=J (h.below hb)
 obtain⟨H0,HB,HRE⟩:=J3 h hB hR
 obtain⟨c0,c1,c2,c3,c4,c5,c6,c7,c8,c9,c10,c11,c12,c13,c14,c15⟩:=h5.cs 0 16
 obtain⟨HSS,HF,HNW⟩:=J3 hs hf hnew
 clear h hB hb hz h5 h8 hR hs hf hnew
 refine gg hfr fun t=>?_
 go_wp2_with fail
 refine (do_any kind epoch site o hA hn hc after since qA qn qc tag ops KL.out (by have:=KZ1.out;have:=HB.out;omega) (HSS.out.below KB1.out) HF.out.size HF.out.ok.client HF.out.name HNW.out).mono ?_
 exact Y19
section
variable {fence:Int} {os:List OpC} {R:List OpC×Int} {B g k:Nat} {S Y:Nat->Prop} {w w2:World}
section
variable (kind epoch site:Int) (o:OpC) (hA:O) (hn hc:Nat) (after since:Int) (qA:O) (qn qc:Nat) (tag:Int)
include kind epoch site o hA hn hc after since qA qn qc tag
theorem ap3 (ops:List OpC) (h:LedIs w B g Y k os fence) (hB:B<=w) (hb:Below w w w2) (hz:w.heap.size+2<=w2) (h5:Blk w2 w 47 (cmdC kind epoch site o hA hn hc after since qA qn qc tag)) (h8:Blk w2 (w.heap.size+1) 50 #[.int .i64 0,.int .i64 0,.int .i64 0]) (hops:OpsIs w S qA qn qc ops) (hS:∀ b,S b->¬ Y b) (hk:k<=900000) (hqn:qn<=1000) (hrow:rowB after since ops=true) (d1:(kind==1)=false) (d3:(kind==3)=true) (hR:R=(if shipsB os fence ⟨kind,epoch,site,o,after,since,ops,tag⟩=true then (shipOs os ⟨kind,epoch,site,o,after,since,ops,tag⟩,epoch) else (os,fence))) (a:Act) (hfr:Fr 40 a [(0,g),(3,(w:Nat)),(4,(w.heap.size+1:Nat))]) :
 (part [1,1,1] (codeOf applyLF)).wp prog (bodyPost prog applyLF fun x w'=>(∃ e n ep,x=.returned (doneV e n ep))/\Acted B g Y (k+80) R.1 R.2 w w') a w2:=by
 obtain⟨K8,KB1,KZ1⟩:=J3 h8 hb hz
 have KL:=J (h.below hb)
 obtain⟨H0,HB,HRE⟩:=J3 h hB hR
 obtain⟨c0,c1,c2,c3,c4,c5,c6,c7,c8,c9,c10,c11,c12,c13,c14,c15⟩:=h5.cs 0 16
 obtain⟨HOPS,HDJ,HK,HQN,HROW⟩:=J5 hops hS hk hqn hrow
 clear h hB hb hz h5 h8 hR hops hS hk hqn hrow
 refine gg hfr fun t=>?_
 go_wp2_with fail
 refine (ship_any kind epoch site o hA hn hc after since qA qn qc tag ops KL.out (by have:=KZ1.out;have:=HB.out;omega) (HOPS.out.below KB1.out) HDJ.out HROW.out HK.out HQN.out).mono ?_
 rintro x w3 ⟨⟨e,n,ep,rfl⟩,ha⟩
 have h83:Blk w3 (w.heap.size+1) 50 #[.int .i64 0,.int .i64 0,.int .i64 0]:=(ha.2.1.2 (w.heap.size+1) (fun hy=>by have:=(H0.out.1 _ hy).2;omega) (by have:=KZ1.out;omega)).trans K8.out
 have HA:=J ha
 dsimp only
 obtain⟨W,HWW,z0,z1,z2,HKK,HLL,y0,y1,y2,f0⟩:=de h83 e n ep
 clear ha
 clear h83
 go_wp2
 rw [<-HWW.out]
 refine dr e n ep ?_
 exact⟨⟨_,_,_,rfl⟩,by rw [HRE.out];exact Acted.boxed H0.out.1 HB.out KB1.out (HA.out) ⟨by omega,by have:=KZ1.out;omega⟩ HKK.out HLL.out⟩
section
variable (h:LedIs w B g Y k os fence) (hB:B<=w) (hb:Below w w w2) (hz:w.heap.size+2<=w2) (h5:Blk w2 w 47 (cmdC kind epoch site o hA hn hc after since qA qn qc tag)) (h8:Blk w2 (w.heap.size+1) 50 #[.int .i64 0,.int .i64 0,.int .i64 0])
include h hB hb hz h5 h8
theorem ap4 (hnew:os.length<80->opB (newOp os reignOp epoch site)=true) (d1:(kind==1)=false) (d3:(kind==3)=false) (d4:(kind==4)=true) (hR:R=(if epoch<=fence then (os,fence) else if 80<=os.length then (os,fence) else (os++[newOp os reignOp epoch site],epoch))) (a:Act) (hfr:Fr 40 a [(0,g),(3,(w:Nat)),(4,(w.heap.size+1:Nat))]) :
 (part [1,1,1] (codeOf applyLF)).wp prog (bodyPost prog applyLF fun x w'=>(∃ e n ep,x=.returned (doneV e n ep))/\Acted B g Y (k+80) R.1 R.2 w w') a w2:=by
 obtain⟨K8,KB1,KZ1⟩:=J3 h8 hb hz
 have KL:=J (h.below hb)
 obtain⟨H0,HB,HRE⟩:=J3 h hB hR
 obtain⟨c0,c1,c2,c3,c4,c5,c6,c7,c8,c9,c10,c11,c12,c13,c14,c15⟩:=h5.cs 0 16
 have HNW:=J hnew
 clear h hB hb hz h5 h8 hR hnew
 refine gg hfr fun t=>?_
 go_wp2_with fail
 refine (reign_any kind epoch site o hA hn hc after since qA qn qc tag KL.out (by have:=KZ1.out;have:=HB.out;omega) HNW.out).mono ?_
 exact Y19
theorem ap5 (haf:0<=after/\after<=4294967296) (d1:(kind==1)=false) (d3:(kind==3)=false) (d4:(kind==4)=false) (d5:(kind==5)=true) (hR:R=(os,fence)) (a:Act) (hfr:Fr 40 a [(0,g),(3,(w:Nat)),(4,(w.heap.size+1:Nat))]) :
 (part [1,1,1] (codeOf applyLF)).wp prog (bodyPost prog applyLF fun x w'=>(∃ e n ep,x=.returned (doneV e n ep))/\Acted B g Y (k+80) R.1 R.2 w w') a w2:=by
 obtain⟨K8,KB1,KZ1⟩:=J3 h8 hb hz
 have KL:=J (h.below hb)
 obtain⟨H0,HB,HRE⟩:=J3 h hB hR
 obtain⟨c0,c1,c2,c3,c4,c5,c6,c7,c8,c9,c10,c11,c12,c13,c14,c15⟩:=h5.cs 0 16
 have HAF:=J haf
 clear h hB hb hz h5 h8 hR haf
 refine gg hfr fun t=>?_
 go_wp2_with fail
 refine (mark_any kind epoch site o hA hn hc after since qA qn qc tag KL.out (by have:=KZ1.out;have:=HB.out;omega) HAF.out).mono ?_
 exact Y19
theorem ap6 (d1:(kind==1)=false) (d3:(kind==3)=false) (d4:(kind==4)=false) (d5:(kind==5)=false) (hR:R=(os,fence)) (a:Act) (hfr:Fr 40 a [(0,g),(3,(w:Nat)),(4,(w.heap.size+1:Nat))]) :
 (part [1,1,1] (codeOf applyLF)).wp prog (bodyPost prog applyLF fun x w'=>(∃ e n ep,x=.returned (doneV e n ep))/\Acted B g Y (k+80) R.1 R.2 w w') a w2:=by
 obtain⟨K8,KB1,KZ1⟩:=J3 h8 hb hz
 have KL:=J (h.below hb)
 obtain⟨H0,HB,HRE⟩:=J3 h hB hR
 obtain⟨c0,c1,c2,c3,c4,c5,c6,c7,c8,c9,c10,c11,c12,c13,c14,c15⟩:=h5.cs 0 16
 obtain⟨n1,n2,rA,rn,rc,sA,sn,sc,stt,hgz,hoz,-,-⟩:=KL.out.open_
 have hrl:=hoz.len
 have hr80:=KL.out.rows.len
 have HLZ:=J (lastLed_any hgz rfl hoz (by omega))
 clear hgz hoz hrl hr80
 clear h hB hb hz h5 h8 hR
 refine gg hfr fun t=>?_
 go_wp2_with fail
 refine HLZ.out.mono ?_
 rintro x w3 ⟨⟨n,ep,rfl⟩,hb3⟩
 have h83:=K8.out.below hb3 K8.out.lt
 have HB3:=J hb3
 dsimp only
 obtain⟨W,HWW,z0,z1,z2,HKK,HLL,y0,y1,y2,f0⟩:=de h83 0 n ep
 clear hb3
 clear h83
 go_wp2
 rw [<-HWW.out]
 refine dr 0 n ep ?_
 exact⟨⟨_,_,_,rfl⟩,by rw [HRE.out];exact Acted.boxed H0.out.1 HB.out KB1.out ((Acted.idle KL.out HB3.out (by have:=KZ1.out;have:=HB.out;omega)).more (Nat.le_add_right k 80)) ⟨by omega,by have:=KZ1.out;omega⟩ HKK.out HLL.out⟩
end
theorem apply_start (ops:List OpC) (h:LedIs w B g Y k os fence) (hB:B<=w) (hs:StrIs w S hA hn hc o.hs) (hops:OpsIs w S qA qn qc ops) (hok:(CmdC.mk kind epoch site o after since ops tag).Ok) (hqn:ops.length<=100000) (hno:cmdB ⟨kind,epoch,site,o,after,since,ops,tag⟩=false->R=(os,fence)) (hgo:cmdB ⟨kind,epoch,site,o,after,since,ops,tag⟩=true->∀ w2,Below w w w2->w.heap.size+2<=w2.heap.size->Blk w2 w 47 (cmdC kind epoch site o hA hn hc after since qA qn qc tag)->Blk w2 (w.heap.size+1) 50 #[.int .i64 0,.int .i64 0,.int .i64 0]->∀ a,Fr 40 a [(0,g),(3,(w:Nat)),(4,(w.heap.size+1:Nat))]->(part [1,1,1] (codeOf applyLF)).wp prog (bodyPost prog applyLF fun x w'=>(∃ e n ep,x=.returned (doneV e n ep))/\Acted B g Y (k+80) R.1 R.2 w w') a w2) :
 Calls prog 13 #[.pointer (some ⟨g,0,none⟩),.agg (cmdC kind epoch site o hA hn hc after since qA qn qc tag)] w fun x w'=>(∃ e n ep,x=.returned (doneV e n ep))/\Acted B g Y (k+80) R.1 R.2 w w':=by
 have h0:=h
 obtain⟨m1,m2,pA,pn,pc,lA,ln,lc,settled,hgb,hos,hlive,hlast⟩:=h.open_
 have hpn:=hos.len
 have hgl:=hgb.lt
 obtain⟨w1,hw1,hz1,hb1,h5,h8⟩:=two_boxes w (cmdC kind epoch site o hA hn hc after since qA qn qc tag)
 have hg1:=hgb.below hb1 hgl
 have ho1:=hos.below hb1
 obtain⟨HW,H8,HB1,HZ1,H0⟩:=J5 hw1 h8 hb1 hz1 h0
 have H1:=J (h0.below hb1)
 obtain⟨HB,HG,H5,HOS,HPN⟩:=J5 hB hg1 h5 ho1 hpn
 have hci:CmdIs w1 S (cmdC kind epoch site o hA hn hc after since qA qn qc tag) ⟨kind,epoch,site,o,after,since,ops,tag⟩:=⟨hA,hn,hc,qA,qn,qc,rfl,hs.below hb1,hops.below hb1⟩
 have HCK:=J (check11_any (cmdC kind epoch site o hA hn hc after since qA qn qc tag) ⟨kind,epoch,site,o,after,since,ops,tag⟩ w1 hci hok (show ops.length<=4294967296 by omega))
 obtain⟨k0,k1,k2,k3,k4,k5,k6,k7,k8,k9,k10,k11,k12,k13,k14,k15⟩:=h5.cs 0 16
 obtain⟨HNO,HGO⟩:=J2 hno hgo
 clear h0 h hgb hos hpn hlive hlast hw1 hz1 hb1 h5 h8 hg1 ho1 hB hci hs hops hok hqn hno hgo
 cases hcb:cmdB ⟨kind,epoch,site,o,after,since,ops,tag⟩ with
 | false=>
  have HCB:=J hcb
  clear hcb
  go_enter func13,ntmps13
  conv=>arg 2;arg 2;arg 2;arg 2;change part [1,1,1] (codeOf applyLF)
  go_wp2_with fail
  rw [<-HW.out]
  refine HCK.out.mono ?_
  rintro x w2 ⟨rfl,hb12⟩
  rw [HCB.out]
  have K8:=J (H8.out.below hb12 H8.out.lt)
  have KB1:=J (HB1.out.trans (hb12.mono (by have:=HZ1.out;omega)))
  have KZ1:=J (show w.heap.size+2<=w2 by have:=HZ1.out;have:=hb12.size;omega)
  have K5:=J (H5.out.below hb12 H5.out.lt)
  clear hb12
  dsimp only [errB]
  go_wp2_with fail
  refine (failed_any _ _).mono ?_
  rintro x w3 ⟨rfl,hb2⟩
  have hb2':Below w2 w2 w3:=⟨hb2.os,hb2.tape,hb2.output,hb2.size,hb2.block⟩
  have h82:=K8.out.below hb2' K8.out.lt
  obtain⟨W,hW,z0,z1,z2,hk,hl⟩:=done_end h82 rfl (.int .i64 3) (.int .i64 0) (.int .i64 0)
  obtain⟨y0,y1,y2⟩:=h82.cs 0 3
  have f0:=h82.frozen
  obtain⟨HWW,HKK,HLL,HB2⟩:=J4 hW hk hl hb2'
  clear hb2 hb2'
  clear h82 hk hl hW
  go_wp2
  rw [<-HWW.out]
  refine dr 3 0 0 ?_
  exact⟨⟨_,_,_,rfl⟩,by rw [HNO.out HCB.out];exact Acted.idle (H0.out.more (Nat.le_add_right k 80)) (KB1.out.trans ((HB2.out.mono (by have:=KZ1.out;omega)).trans (HLL.out.mono (by omega)))) HB.out⟩
 | true=>
  have HCB:=J hcb
  clear hcb
  go_enter func13,ntmps13
  conv=>arg 2;arg 2;arg 2;arg 2;change part [1,1,1] (codeOf applyLF)
  go_wp2_with fail
  rw [<-HW.out]
  refine HCK.out.mono ?_
  rintro x w2 ⟨rfl,hb12⟩
  rw [HCB.out]
  have K8:=J (H8.out.below hb12 H8.out.lt)
  have KB1:=J (HB1.out.trans (hb12.mono (by have:=HZ1.out;omega)))
  have KZ1:=J (show w.heap.size+2<=w2 by have:=HZ1.out;have:=hb12.size;omega)
  have K5:=J (H5.out.below hb12 H5.out.lt)
  clear hb12
  dsimp only [errB]
  go_wp2_with fail
  exact HGO.out HCB.out _ KB1.out KZ1.out K5.out K8.out _ ff
end
theorem apply_any (cells:Array Value) (c:CmdC) (h:LedIs w B g Y k os fence) (hB:B<=w) (hc:CmdIs w S cells c) (hok:c.Ok) (hS:∀ b,S b->¬ Y b) (hk:k<=900000) (hqn:c.ops.length<=100000) :
 Calls prog 13 #[.pointer (some ⟨g,0,none⟩),.agg cells] w fun x w'=>(∃ e n ep,x=.returned (doneV e n ep))/\Acted B g Y (k+80) (stepC os fence c).1 (stepC os fence c).2 w w':=by
 obtain⟨hA,hn,hcc,qA,qn,qc,rfl,hs,hops⟩:=hc
 obtain⟨kind,epoch,site,o,after,since,ops,tag⟩:=c
 simp only at hs hops hqn ⊢
 have hql:=hops.len
 refine apply_start kind epoch site o hA hn hcc after since qA qn qc tag ops h hB hs hops hok hqn (fun hcb=>?_) fun hcb w2 b1 b2 b3 b4 a hfr=>?_
 ·unfold stepC
  rw [if_pos hcb]
 have hst:stepC os fence ⟨kind,epoch,site,o,after,since,ops,tag⟩=if kind=1 then (if doesB os fence ⟨kind,epoch,site,o,after,since,ops,tag⟩=true then os++[newOp os o epoch site] else os,fence) else if kind=3 then (if shipsB os fence ⟨kind,epoch,site,o,after,since,ops,tag⟩=true then (shipOs os ⟨kind,epoch,site,o,after,since,ops,tag⟩,epoch) else (os,fence)) else if kind=4 then (if epoch<=fence then (os,fence) else if 80<=os.length then (os,fence) else (os++[newOp os reignOp epoch site],epoch)) else (os,fence):=by
  unfold stepC
  rw [if_neg (by rw [hcb];decide)]
 by_cases q1:kind=1
 ·rw [if_pos q1] at hst
  have hdo:=cmdB_do hcb q1
  have hf:Fits o:=by
   exact Y119
  exact ap1 kind epoch site o hA hn hcc after since qA qn qc tag ops h hB b1 b2 b3 b4 hs hf (fun hl=>newOp_do hcb q1 hl) (beq_iff_eq.2 q1) hst a hfr
 rw [if_neg q1] at hst
 have d1:(kind==1)=false:=beq_eq_false_iff_ne.2 q1
 by_cases q3:kind=3
 ·rw [if_pos q3] at hst
  exact ap3 kind epoch site o hA hn hcc after since qA qn qc tag ops h hB b1 b2 b3 b4 hops hS hk (by have:=(cmdB_ship hcb q3).2.2.2.2.2;simp only at this;omega) (cmdB_ship hcb q3).1 d1 (beq_iff_eq.2 q3) hst a hfr
 rw [if_neg q3] at hst
 have d3:(kind==3)=false:=beq_eq_false_iff_ne.2 q3
 by_cases q4:kind=4
 ·rw [if_pos q4] at hst
  exact ap4 kind epoch site o hA hn hcc after since qA qn qc tag h hB b1 b2 b3 b4 (fun hl=>newOp_reign hcb q4 hl) d1 d3 (beq_iff_eq.2 q4) hst a hfr
 rw [if_neg q4] at hst
 have d4:(kind==4)=false:=beq_eq_false_iff_ne.2 q4
 by_cases q5:kind=5
 ·have hm:=cmdB_mark hcb q5
  simp only at hm
  exact ap5 kind epoch site o hA hn hcc after since qA qn qc tag h hB b1 b2 b3 b4 (by omega) d1 d3 d4 (beq_iff_eq.2 q5) hst a hfr
 ·exact ap6 kind epoch site o hA hn hcc after since qA qn qc tag h hB b1 b2 b3 b4 d1 d3 d4 (beq_eq_false_iff_ne.2 q5) hst a hfr
end
end Go.Proofs.Ytaipgdhdfpemcaa
