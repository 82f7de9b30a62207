/- THE WALKS OF THE LANE, part 41. -/
import Derived.Test.YtaipgdhdfpemcaaF36
import Derived.Test.YtaipgdhdfpemcaaF39
import Derived.Test.YtaipgdhdfpemcaaF40
namespace Go.Proofs.Ytaipgdhdfpemcaa
set_option linter.all false
open Go.RowKit Go.Proofs.Try
set_option maxRecDepth 100000
set_option maxHeartbeats 4000000
@[reducible] noncomputable def rapplyFF:Func:=Try.f15
theorem rap1 {w:World} {B g:Nat} {Y S:Nat->Prop} {k:Nat} {os:List OpC} {fence:Int} {w2:World} {R:List OpC×Int} (kind epoch site:Int) (o:OpC) (hA:O) (hn hc:Nat) (after since:Int) (qA:O) (qn qc:Nat) (tag:Int) (ops:List OpC) (h:RLedIs w B g Y k os fence) (hB:B<=w) (hb:Below w w w2) (hz:w.heap.size+2<=w2) (h5:Blk w2 w 47 (cmdC kind epoch site o hA hn hc after since qA qn qc tag)) (h8:Blk w2 (w.heap.size+1) 50 #[.int .i64 0,.int .i64 0,.int .i64 0])
 (hs:StrIs w S hA hn hc o.hs) (hf:Fits o) (hnew:os.length<64->opB (newOp os o epoch site)=true) (d1:(kind==1)=true) (hR:R=(if doesB os fence ⟨kind,epoch,site,o,after,since,ops,tag⟩=true then os++[newOp os o epoch site] else os,fence)) (a:Act) (hfr:Fr 58 a [(0,g),(3,(w:Nat)),(4,(w.heap.size+1:Nat))]) :
 (part [1,1] (codeOf rapplyFF)).wp prog (bodyPost prog rapplyFF fun x w'=>(∃ e n ep,x=.returned (doneV e n ep))/\RActed B g Y (k+80) R.1 R.2 w w') a w2:=by
 obtain⟨K8,KB1,KZ1⟩:=J3 h8 hb hz
 have KL:=J (h.below hb)
 obtain⟨H0,HB,HRE⟩:=J3 h hB hR
 obtain⟨c0,c1,c2,c3,c4,c5,c6,c7,c8,c9,c10,c11,c12,c13,c14,c15⟩:=h5.cs 0 16
 obtain⟨HSS,HF,HNW⟩:=J3 hs hf hnew
 clear h hB hb hz h5 h8 hR hs hf hnew
 refine gg hfr fun t=>?_
 go_wp2_with fail
 refine (rdo_any kind epoch site o hA hn hc after since qA qn qc tag ops KL.out (by have:=KZ1.out;have:=HB.out;omega) (HSS.out.below KB1.out) HF.out.size HNW.out).mono ?_
 exact Y35
section
variable {fence:Int} {os:List OpC} {R:List OpC×Int} {B g k:Nat} {S Y:Nat->Prop} {w w2:World}
section
variable (kind epoch site:Int) (o:OpC) (hA:O) (hn hc:Nat) (after since:Int) (qA:O) (qn qc:Nat) (tag:Int)
include kind epoch site o hA hn hc after since qA qn qc tag
theorem rap3 (ops:List OpC) (h:RLedIs w B g Y k os fence) (hB:B<=w) (hb:Below w w w2) (hz:w.heap.size+2<=w2) (h5:Blk w2 w 47 (cmdC kind epoch site o hA hn hc after since qA qn qc tag)) (h8:Blk w2 (w.heap.size+1) 50 #[.int .i64 0,.int .i64 0,.int .i64 0]) (hops:OpsIs w S qA qn qc ops) (hS:∀ b,S b->¬ Y b) (hk:k<=900000) (hqn:qn<=1000) (hrow:rowB after since ops=true) (d1:(kind==1)=false) (d3:(kind==3)=true) (hR:R=(if shipsB os fence ⟨kind,epoch,site,o,after,since,ops,tag⟩=true then (shipOs os ⟨kind,epoch,site,o,after,since,ops,tag⟩,epoch) else (os,fence))) (a:Act) (hfr:Fr 58 a [(0,g),(3,(w:Nat)),(4,(w.heap.size+1:Nat))]) :
 (part [1,1] (codeOf rapplyFF)).wp prog (bodyPost prog rapplyFF fun x w'=>(∃ e n ep,x=.returned (doneV e n ep))/\RActed B g Y (k+80) R.1 R.2 w w') a w2:=by
 obtain⟨K8,KB1,KZ1⟩:=J3 h8 hb hz
 have KL:=J (h.below hb)
 obtain⟨H0,HB,HRE⟩:=J3 h hB hR
 obtain⟨c0,c1,c2,c3,c4,c5,c6,c7,c8,c9,c10,c11,c12,c13,c14,c15⟩:=h5.cs 0 16
 obtain⟨HOPS,HDJ,HK,HQN,HROW⟩:=J5 hops hS hk hqn hrow
 clear h hB hb hz h5 h8 hR hops hS hk hqn hrow
 refine gg hfr fun t=>?_
 go_wp2_with fail
 refine (rship_any kind epoch site o hA hn hc after since qA qn qc tag ops rfl KL.out (by have:=KZ1.out;have:=HB.out;omega) (HOPS.out.below KB1.out) HDJ.out HROW.out HK.out HQN.out).mono ?_
 rintro x w3 ⟨⟨e,n,ep,rfl⟩,ha⟩
 have h83:Blk w3 (w.heap.size+1) 50 #[.int .i64 0,.int .i64 0,.int .i64 0]:=(ha.2.1.2 (w.heap.size+1) (fun hy=>by have:=(H0.out.1 _ hy).2;omega) (by have:=KZ1.out;omega)).trans K8.out
 have HA:=J ha
 dsimp only
 obtain⟨W,HWW,z0,z1,z2,HKK,HLL,y0,y1,y2,f0⟩:=de h83 e n ep
 clear ha
 clear h83
 go_wp2
 rw [<-HWW.out]
 refine dr e n ep ?_
 exact⟨⟨_,_,_,rfl⟩,by rw [HRE.out];exact RActed.boxed H0.out.1 HB.out KB1.out (HA.out) ⟨by omega,by have:=KZ1.out;omega⟩ HKK.out HLL.out⟩
section
variable (h:RLedIs w B g Y k os fence) (hB:B<=w) (hb:Below w w w2) (hz:w.heap.size+2<=w2) (h5:Blk w2 w 47 (cmdC kind epoch site o hA hn hc after since qA qn qc tag)) (h8:Blk w2 (w.heap.size+1) 50 #[.int .i64 0,.int .i64 0,.int .i64 0])
include h hB hb hz h5 h8
theorem rap5 (haf:1<=after/\after<=1000) (d1:(kind==1)=false) (d3:(kind==3)=false) (d5:(kind==5)=true) (hR:R=(os,fence)) (a:Act) (hfr:Fr 58 a [(0,g),(3,(w:Nat)),(4,(w.heap.size+1:Nat))]) :
 (part [1,1] (codeOf rapplyFF)).wp prog (bodyPost prog rapplyFF fun x w'=>(∃ e n ep,x=.returned (doneV e n ep))/\RActed B g Y (k+80) R.1 R.2 w w') a w2:=by
 obtain⟨K8,KB1,KZ1⟩:=J3 h8 hb hz
 have KL:=J (h.below hb)
 obtain⟨H0,HB,HRE⟩:=J3 h hB hR
 obtain⟨c0,c1,c2,c3,c4,c5,c6,c7,c8,c9,c10,c11,c12,c13,c14,c15⟩:=h5.cs 0 16
 have HAF:=J haf
 clear h hB hb hz h5 h8 hR haf
 refine gg hfr fun t=>?_
 go_wp2_with fail
 refine (rmark_any kind epoch site o hA hn hc after since qA qn qc tag KL.out (by have:=KZ1.out;have:=HB.out;omega) HAF.out).mono ?_
 exact Y35
section
variable (d1:(kind==1)=false) (d3:(kind==3)=false) (d5:(kind==5)=false) (d4:(kind==4)=true)
include d1 d3 d5 d4
theorem rap4a (e1:decide (epoch<=fence)=true) (hR:R=(os,fence)) (a:Act) (hfr:Fr 58 a [(0,g),(3,(w:Nat)),(4,(w.heap.size+1:Nat))]) :
 (part [1,1] (codeOf rapplyFF)).wp prog (bodyPost prog rapplyFF fun x w'=>(∃ e n ep,x=.returned (doneV e n ep))/\RActed B g Y (k+80) R.1 R.2 w w') a w2:=by
 obtain⟨K8,KB1,KZ1⟩:=J3 h8 hb hz
 have KL:=J (h.below hb)
 obtain⟨H0,HB,HRE⟩:=J3 h hB hR
 obtain⟨c0,c1,c2,c3,c4,c5,c6,c7,c8,c9,c10,c11,c12,c13,c14,c15⟩:=h5.cs 0 16
 obtain⟨pA,pn,pc,lA,ln,lc,st,hgb,hos⟩:=(h.below hb).open_
 have hpn:=hos.len
 have g0:=hgb.c1 0
 have g2:=hgb.c1 2
 have f2:=hgb.frozen 2
 have hgl:g<w:=(h.1 g h.bY).2
 clear h hB hb hz h5 h8 hR hgb hos hpn
 refine gg hfr fun t=>?_
 go_wp2_with fail
 go_quiet (fail)
 have h82:=K8.out.drewN nq
 obtain⟨W,HWW,z0,z1,z2,HKK,HLL,y0,y1,y2,f0⟩:=de h82 120 0 0
 clear h82
 go_wp2
 rw [<-HWW.out]
 refine dr 120 0 0 ?_
 exact Y134
theorem rap4b (e1:decide (epoch<=fence)=false) (hl:80<=os.length) (hR:R=(os,fence)) (a:Act) (hfr:Fr 58 a [(0,g),(3,(w:Nat)),(4,(w.heap.size+1:Nat))]) :
 (part [1,1] (codeOf rapplyFF)).wp prog (bodyPost prog rapplyFF fun x w'=>(∃ e n ep,x=.returned (doneV e n ep))/\RActed B g Y (k+80) R.1 R.2 w w') a w2:=by
 obtain⟨K8,KB1,KZ1⟩:=J3 h8 hb hz
 have KL:=J (h.below hb)
 obtain⟨H0,HB,HRE⟩:=J3 h hB hR
 obtain⟨c0,c1,c2,c3,c4,c5,c6,c7,c8,c9,c10,c11,c12,c13,c14,c15⟩:=h5.cs 0 16
 obtain⟨pA,pn,pc,lA,ln,lc,st,hgb,hos⟩:=(h.below hb).open_
 have hpn:=hos.len
 have g0:=hgb.c1 0
 have g2:=hgb.c1 2
 have f2:=hgb.frozen 2
 have hgl:g<w:=(h.1 g h.bY).2
 have d9:decide ((80:Int)<=(pn:Int))=true:=decide_eq_true (by omega)
 clear h hB hb hz h5 h8 hR hgb hos hpn hl
 refine gg hfr fun t=>?_
 go_wp2_with fail
 go_quiet (fail)
 have h82:=K8.out.drewN nq
 obtain⟨W,HWW,z0,z1,z2,HKK,HLL,y0,y1,y2,f0⟩:=de h82 125 0 0
 clear h82
 go_wp2
 rw [<-HWW.out]
 refine dr 125 0 0 ?_
 exact Y134
end
theorem rap4c (hnew:os.length<80->opB (newOp os reignOp epoch site)=true) (d1:(kind==1)=false) (d3:(kind==3)=false) (d5:(kind==5)=false) (d4:(kind==4)=true) (e1:decide (epoch<=fence)=false) (hl:os.length<80) (hR:R=(os++[newOp os reignOp epoch site],epoch)) (a:Act) (hfr:Fr 58 a [(0,g),(3,(w:Nat)),(4,(w.heap.size+1:Nat))]) :
 (part [1,1] (codeOf rapplyFF)).wp prog (bodyPost prog rapplyFF fun x w'=>(∃ e n ep,x=.returned (doneV e n ep))/\RActed B g Y (k+80) R.1 R.2 w w') a w2:=by
 obtain⟨K8,KB1,KZ1⟩:=J3 h8 hb hz
 have KL:=J (h.below hb)
 obtain⟨H0,HB,HRE⟩:=J3 h hB hR
 obtain⟨c0,c1,c2,c3,c4,c5,c6,c7,c8,c9,c10,c11,c12,c13,c14,c15⟩:=h5.cs 0 16
 obtain⟨pA,pn,pc,lA,ln,lc,st,hgb,hos⟩:=(h.below hb).open_
 have hpn:=hos.len
 have g0:=hgb.c1 0
 have g2:=hgb.c1 2
 have f2:=hgb.frozen 2
 have hgl:g<w:=(h.1 g h.bY).2
 have d9:decide ((80:Int)<=(pn:Int))=false:=decide_eq_false (by omega)
 have HNW:=J (hnew hl)
 have HL:=J hl
 clear h hB hb hz h5 h8 hR hgb hos hpn hl hnew
 refine gg hfr fun t=>?_
 go_wp2_with fail
 go_quiet (fail)
 go_wp2_with fail
 have hBw:=HB.out
 have hzz:=KZ1.out
 have hl1:=KL.out.below (below_drewN (Below.refl _ _) nq)
 have ha1:=(hl1.set_ (by show B<=w2;omega)).1 epoch
 have s1:=ha1.2.1.1
 refine (rapp_any (S:=Any) (o:=reignOp) (A:=none) (n:=0) (c:=0) epoch site ha1.1 ⟨Rs.nil_ _ _ _ _,Nat.le_refl _,Nat.zero_le _⟩ HL.out HNW.out (by have e:(w2.drewN nq).heap.size=w2.heap.size:=rfl;omega)).mono ?_
 rintro x w3 ⟨⟨e,n,ep,rfl⟩,ha2⟩
 have hd:Below w2 w2 (w2.drewN nq):=below_drewN (Below.refl _ _) nq
 have ha:=RActed.trans (w:=w2.drewN nq) KL.out.1 ha1 ha2 (by show B<=w2;omega)
 have h83:Blk w3 (w.heap.size+1) 50 #[.int .i64 0,.int .i64 0,.int .i64 0]:=(ha.2.1.2 (w.heap.size+1) (fun hy=>by have:=(H0.out.1 _ hy).2;omega) (by show w.heap.size+1<w2;omega)).trans K8.out
 have HA:=J ha
 dsimp only
 obtain⟨W,HWW,z0,z1,z2,HKK,HLL,y0,y1,y2,f0⟩:=de h83 e n ep
 clear ha ha1 ha2 s1 hd hBw hzz hl1
 clear h83
 go_wp2
 rw [<-HWW.out]
 refine dr e n ep ?_
 exact⟨⟨_,_,_,rfl⟩,by rw [HRE.out];exact RActed.boxed H0.out.1 HB.out (below_drewN KB1.out _) (HA.out.more (Nat.le_add_right k 80)) ⟨by omega,by have:=KZ1.out;show w.heap.size+1<w2;omega⟩ HKK.out HLL.out⟩
theorem rap6 (d1:(kind==1)=false) (d3:(kind==3)=false) (d5:(kind==5)=false) (d4:(kind==4)=false) (hR:R=(os,fence)) (a:Act) (hfr:Fr 58 a [(0,g),(3,(w:Nat)),(4,(w.heap.size+1:Nat))]) :
 (part [1,1] (codeOf rapplyFF)).wp prog (bodyPost prog rapplyFF fun x w'=>(∃ e n ep,x=.returned (doneV e n ep))/\RActed B g Y (k+80) R.1 R.2 w w') a w2:=by
 obtain⟨K8,KB1,KZ1⟩:=J3 h8 hb hz
 have KL:=J (h.below hb)
 obtain⟨H0,HB,HRE⟩:=J3 h hB hR
 obtain⟨c0,c1,c2,c3,c4,c5,c6,c7,c8,c9,c10,c11,c12,c13,c14,c15⟩:=h5.cs 0 16
 obtain⟨rA,rn,rc,sA,sn,sc,stt,hgz,hoz⟩:=KL.out.open_
 have hrl:=hoz.len
 have hr80:=KL.out.rows.len
 have HLZ:=J (rlast_any hgz rfl hoz (by omega))
 clear hgz hoz hrl hr80
 clear h hB hb hz h5 h8 hR
 refine gg hfr fun t=>?_
 go_wp2_with fail
 refine HLZ.out.mono ?_
 rintro x w3 ⟨⟨n,ep,rfl⟩,hb3⟩
 have h83:=K8.out.below hb3 K8.out.lt
 have HB3:=J hb3
 dsimp only
 obtain⟨W,HWW,z0,z1,z2,HKK,HLL,y0,y1,y2,f0⟩:=de h83 0 n ep
 clear hb3
 clear h83
 go_wp2
 rw [<-HWW.out]
 refine dr 0 n ep ?_
 exact⟨⟨_,_,_,rfl⟩,by rw [HRE.out];exact RActed.boxed H0.out.1 HB.out KB1.out ((RActed.idle KL.out HB3.out (by have:=KZ1.out;have:=HB.out;omega)).more (Nat.le_add_right k 80)) ⟨by omega,by have:=KZ1.out;omega⟩ HKK.out HLL.out⟩
end
theorem rapply_start (ops:List OpC) (h:RLedIs w B g Y k os fence) (hB:B<=w) (hs:StrIs w S hA hn hc o.hs) (hops:OpsIs w S qA qn qc ops) (hok:(CmdC.mk kind epoch site o after since ops tag).Ok) (hqn:ops.length<=100000) (hno:cmdB ⟨kind,epoch,site,o,after,since,ops,tag⟩=false->R=(os,fence)) (hgo:cmdB ⟨kind,epoch,site,o,after,since,ops,tag⟩=true->∀ w2,Below w w w2->w.heap.size+2<=w2.heap.size->Blk w2 w 47 (cmdC kind epoch site o hA hn hc after since qA qn qc tag)->Blk w2 (w.heap.size+1) 50 #[.int .i64 0,.int .i64 0,.int .i64 0]->∀ a,Fr 58 a [(0,g),(3,(w:Nat)),(4,(w.heap.size+1:Nat))]->(part [1,1] (codeOf rapplyFF)).wp prog (bodyPost prog rapplyFF fun x w'=>(∃ e n ep,x=.returned (doneV e n ep))/\RActed B g Y (k+80) R.1 R.2 w w') a w2) :
 Calls prog 15 #[.pointer (some ⟨g,0,none⟩),.agg (cmdC kind epoch site o hA hn hc after since qA qn qc tag)] w fun x w'=>(∃ e n ep,x=.returned (doneV e n ep))/\RActed B g Y (k+80) R.1 R.2 w w':=by
 obtain⟨w1,hw1,hz1,hb1,h5,h8⟩:=two_boxes w (cmdC kind epoch site o hA hn hc after since qA qn qc tag)
 have hci:CmdIs w1 S (cmdC kind epoch site o hA hn hc after since qA qn qc tag) ⟨kind,epoch,site,o,after,since,ops,tag⟩:=⟨hA,hn,hc,qA,qn,qc,rfl,hs.below hb1,hops.below hb1⟩
 have HCK:=J (right11_any (cmdC kind epoch site o hA hn hc after since qA qn qc tag) ⟨kind,epoch,site,o,after,since,ops,tag⟩ w1 hci hok (show ops.length<=4294967296 by omega))
 obtain⟨HW,H8,H5,HB1,HZ1,H0,HB,HNO,HGO⟩:=J9 hw1 h8 h5 hb1 hz1 h hB hno hgo
 obtain⟨k0,k1,k2,k3,k4,k5,k6,k7,k8,k9,k10,k11,k12,k13,k14,k15⟩:=h5.cs 0 16
 clear hci hs hops hok hqn hno hgo hw1 h8 h5 hb1 hz1 h hB
 cases hcb:cmdB ⟨kind,epoch,site,o,after,since,ops,tag⟩ with
 | false=>
  have HCB:=J hcb
  clear hcb
  go_enter func15,ntmps15
  conv=>arg 2;arg 2;arg 2;change part [1,1] (codeOf rapplyFF)
  go_wp2_with fail
  rw [<-HW.out]
  refine HCK.out.mono ?_
  rintro x w2 ⟨rfl,hb12⟩
  rw [HCB.out]
  have K8:=J (H8.out.below hb12 H8.out.lt)
  have KB1:=J (HB1.out.trans (hb12.mono (by have:=HZ1.out;omega)))
  have KZ1:=J (show w.heap.size+2<=w2 by have:=HZ1.out;have:=hb12.size;omega)
  have K5:=J (H5.out.below hb12 H5.out.lt)
  clear hb12
  dsimp only
  have h82:=K8.out
  obtain⟨W,HWW,z0,z1,z2,HKK,HLL,y0,y1,y2,f0⟩:=de h82 3 0 0
  clear h82
  go_wp2
  rw [<-HWW.out]
  refine dr 3 0 0 ?_
  exact⟨⟨_,_,_,rfl⟩,by rw [HNO.out HCB.out];exact RActed.idle (H0.out.more (Nat.le_add_right k 80)) (KB1.out.trans (HLL.out.mono (by omega))) HB.out⟩
 | true=>
  have HCB:=J hcb
  clear hcb
  go_enter func15,ntmps15
  conv=>arg 2;arg 2;arg 2;change part [1,1] (codeOf rapplyFF)
  go_wp2_with fail
  rw [<-HW.out]
  refine HCK.out.mono ?_
  rintro x w2 ⟨rfl,hb12⟩
  rw [HCB.out]
  have K8:=J (H8.out.below hb12 H8.out.lt)
  have KB1:=J (HB1.out.trans (hb12.mono (by have:=HZ1.out;omega)))
  have KZ1:=J (show w.heap.size+2<=w2 by have:=HZ1.out;have:=hb12.size;omega)
  have K5:=J (H5.out.below hb12 H5.out.lt)
  clear hb12
  dsimp only
  go_wp2_with fail
  exact HGO.out HCB.out _ KB1.out KZ1.out K5.out K8.out _ ff
end
theorem rapply_any (cells:Array Value) (c:CmdC) (h:RLedIs w B g Y k os fence) (hB:B<=w) (hc:CmdIs w S cells c) (hok:c.Ok) (hS:∀ b,S b->¬ Y b) (hk:k<=900000) (hqn:c.ops.length<=100000) :
 Calls prog 15 #[.pointer (some ⟨g,0,none⟩),.agg cells] w fun x w'=>(∃ e n ep,x=.returned (doneV e n ep))/\RActed B g Y (k+80) (stepC os fence c).1 (stepC os fence c).2 w w':=by
 obtain⟨hA,hn,hcc,qA,qn,qc,rfl,hs,hops⟩:=hc
 obtain⟨kind,epoch,site,o,after,since,ops,tag⟩:=c
 simp only at hs hops hqn ⊢
 have hql:=hops.len
 refine rapply_start kind epoch site o hA hn hcc after since qA qn qc tag ops h hB hs hops hok hqn (fun hcb=>?_) fun hcb w2 b1 b2 b3 b4 a hfr=>?_
 ·unfold stepC
  rw [if_pos hcb]
 have hst:stepC os fence ⟨kind,epoch,site,o,after,since,ops,tag⟩=if kind=1 then (if doesB os fence ⟨kind,epoch,site,o,after,since,ops,tag⟩=true then os++[newOp os o epoch site] else os,fence) else if kind=3 then (if shipsB os fence ⟨kind,epoch,site,o,after,since,ops,tag⟩=true then (shipOs os ⟨kind,epoch,site,o,after,since,ops,tag⟩,epoch) else (os,fence)) else if kind=4 then (if epoch<=fence then (os,fence) else if 80<=os.length then (os,fence) else (os++[newOp os reignOp epoch site],epoch)) else (os,fence):=by
  unfold stepC
  rw [if_neg (by rw [hcb];decide)]
 by_cases q1:kind=1
 ·rw [if_pos q1] at hst
  have hdo:=cmdB_do hcb q1
  have hf:Fits o:=by
   exact Y119
  exact rap1 kind epoch site o hA hn hcc after since qA qn qc tag ops h hB b1 b2 b3 b4 hs hf (fun hl=>newOp_do hcb q1 hl) (beq_iff_eq.2 q1) hst a hfr
 rw [if_neg q1] at hst
 have d1:(kind==1)=false:=beq_eq_false_iff_ne.2 q1
 by_cases q3:kind=3
 ·rw [if_pos q3] at hst
  exact rap3 kind epoch site o hA hn hcc after since qA qn qc tag ops h hB b1 b2 b3 b4 hops hS hk (by have:=(cmdB_ship hcb q3).2.2.2.2.2;simp only at this;omega) (cmdB_ship hcb q3).1 d1 (beq_iff_eq.2 q3) hst a hfr
 rw [if_neg q3] at hst
 have d3:(kind==3)=false:=beq_eq_false_iff_ne.2 q3
 by_cases q4:kind=4
 ·rw [if_pos q4] at hst
  have d5:(kind==5)=false:=beq_eq_false_iff_ne.2 (by omega)
  by_cases q6:epoch<=fence
  ·rw [if_pos q6] at hst
   exact rap4a kind epoch site o hA hn hcc after since qA qn qc tag h hB b1 b2 b3 b4 d1 d3 d5 (beq_iff_eq.2 q4) (decide_eq_true q6) hst a hfr
  rw [if_neg q6] at hst
  by_cases q7:80<=os.length
  ·rw [if_pos q7] at hst
   exact rap4b kind epoch site o hA hn hcc after since qA qn qc tag h hB b1 b2 b3 b4 d1 d3 d5 (beq_iff_eq.2 q4) (decide_eq_false q6) q7 hst a hfr
  ·rw [if_neg q7] at hst
   exact rap4c kind epoch site o hA hn hcc after since qA qn qc tag h hB b1 b2 b3 b4 (fun hl=>newOp_reign hcb q4 hl) d1 d3 d5 (beq_iff_eq.2 q4) (decide_eq_false q6) (by omega) hst a hfr
 rw [if_neg q4] at hst
 have d4:(kind==4)=false:=beq_eq_false_iff_ne.2 q4
 by_cases q5:kind=5
 ·have hm:=cmdB_mark hcb q5
  simp only at hm
  exact rap5 kind epoch site o hA hn hcc after since qA qn qc tag h hB b1 b2 b3 b4 (by omega) d1 d3 (beq_iff_eq.2 q5) hst a hfr
 ·exact rap6 kind epoch site o hA hn hcc after since qA qn qc tag h hB b1 b2 b3 b4 d1 d3 (beq_eq_false_iff_ne.2 q5) d4 hst a hfr
end
end Go.Proofs.Ytaipgdhdfpemcaa
