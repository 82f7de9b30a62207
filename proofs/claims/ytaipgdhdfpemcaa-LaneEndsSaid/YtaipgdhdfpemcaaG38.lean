/- THE WALKS OF THE LANE, part 38. -/
import Derived.Test.YtaipgdhdfpemcaaG33
import Derived.Test.YtaipgdhdfpemcaaG37
namespace Go.Proofs.Ytaipgdhdfpemcaa
set_option linter.all false
open Go.RowKit Go.Proofs.Try
set_option maxRecDepth 100000
set_option maxHeartbeats 4000000
@[reducible] noncomputable def lastFF:Func:=Try.f30
def LastV (n:Nat) (os:List OpC) (u v:Int):Prop:=(n=0/\u=0/\v=0)\/∃ m o,n=m+1/\os[m]? = some o/\u=o.n/\v=o.epoch
def LastS (w:World) (v:Value) (R:World->Prop):List Value->World->Prop
 | [],W=>W=w
 | [u],W=>u=v/\Below w w W
 | [_,_],W=>R W
 | _,_=>False
section
variable {ad:Addr} {cs:Array Value} {x y:Int} {os:List OpC} {vs:List Value} {b2 c g m n oc on pc:Nat} {S:Nat->Prop} {A oA:O} {o:OpC} {v v0:Value} {W w:World} {R:World->Prop}
theorem LastS.nil_ (h:LastS w v R vs W) (hl:vs.length<=0):W=w:=by
 exact Y136
theorem last3 (Q:Z) (a:Act) (hfr:Fr 27 a [(0,g),(2,b2)]) (hg:Blk w g 98 cs) (h5:cs[5]? = some (.slice (some ad) (m+1) pc)) (hop:OpAt w (ad.add (m*9)) (o.at_ oA on oc)) (hm:m<=1000) (hb2:Blk w b2 26 #[.int .i64 0,.int .i64 0]) (hQ:∀ a' W,Fr 27 a' [(0,g),(2,b2)]->(Blk W b2 26 #[.int .i64 o.n,o.epoch]/\Below b2 w W)->Q .normal a' W) :
 (part [1,1,0] (codeOf lastFF)).wp prog Q a w:=by
 have hg':Blk w.drew g 98 cs:=hg
 have hb':Blk w.drew b2 26 #[.int .i64 0,.int .i64 0]:=hb2
 have hop':OpAt w.drew (ad.add (m*9)) (o.at_ oA on oc):=hop
 have HQ:=J (show ∀ a' W,Fr 27 a' [(0,g),(2,b2)]->(Blk W b2 26 #[.int .i64 o.n,o.epoch]/\Below b2 w.drew W)->Q .normal a' W from fun a' W hf hh=>hQ a' W hf (by obtain⟨h1,h3⟩:=hh;exact⟨h1,⟨h3.os,h3.tape,h3.output,h3.size,h3.block⟩⟩))
 clear hg hb2 hop hQ
 obtain⟨w0,hw0⟩:∃ w0,w0=w.drew:=⟨_,rfl⟩
 rw [<-hw0] at hg' hb' hop' HQ
 obtain⟨HG,HB2,HP,H5⟩:=J4 hg' hb' hop' h5
 have z1:IntKind.i64.wrap (((m:Int)+1)-1)=(m:Nat):=by rw [IntKind.wrap_i64];omega
 have z2:(0:Int)<=(m:Nat):=by omega
 have z3:((m:Nat):Int)<((m+1:Nat):Int):=by omega
 clear hg' hb' hop' h5
 refine gg hfr fun t=>?_
 generalize w=w1 at hw0 ⊢
 have HW0:=J hw0
 clear hw0
 refine wp_region_chain kr [12,13] (fun i=>match i with|0=>g|1=>g|2=>.pointer (some ⟨g,5,none⟩)|3=>.slice (some ad) (m+1) pc|4=>g|5=>g|6=>.pointer (some ⟨g,5,none⟩)|7=>.slice (some ad) (m+1) pc|8=>.int .i64 ((m:Int)+1)|9=>.int .i64 (m:Nat)|10=>.pointer (some (ad.add (m*9)))|11=>.agg #[.int .i64 o.n,o.epoch,o.kind,o.site,o.client,o.seq,.string o.name,o.size,.slice oA on oc]|_=>undef) (LastS w0 (.agg #[.int .i64 o.n,o.epoch]) (fun W=>Blk W b2 26 #[.int .i64 o.n,o.epoch]/\Below b2 w0 W)) (fun s i=>s==12&&decide (i<=12)) kr kr kr kr ?hS ?hfree ?hlink ?hend
 case hS=>exact HW0.out.symm
 case hfree=>
  intro i o F U vs W ho hni hS hlen hlim hat hoff hd
  have e0:=oo 0 g
  have t0:=act_tmp e0
  have e2:=oo 2 b2
  have t2:=act_tmp e2
  obtain⟨qa,qb⟩:=J2 hat hd
  clear hat hoff hd
  match i with
  | 0|4=>
   exact Y66
  | 1=>
   cases ho
   have t14:=act_tmp (fev qa qb 0 14)
   exact vl ⟨rfl,rfl⟩
  | 2=>
   cases ho
   have t15:=act_tmp (fev qa qb 1 15)
   exact vl ⟨rfl,rfl⟩
  | 3=>
   cases ho
   have t16:=act_tmp (fev qa qb 2 16)
   exact Y115
  | 5=>
   cases ho
   have t18:=act_tmp (fev qa qb 4 18)
   exact vl ⟨rfl,rfl⟩
  | 6=>
   cases ho
   have t19:=act_tmp (fev qa qb 5 19)
   exact vl ⟨rfl,rfl⟩
  | 7=>
   cases ho
   have t20:=act_tmp (fev qa qb 6 20)
   exact Y115
  | 8=>
   cases ho
   have t21:=act_tmp (fev qa qb 7 21)
   exact vl ⟨rfl,rfl⟩
  | 9=>
   cases ho
   have t22:=act_tmp (fev qa qb 8 22)
   exact Y54
  | 10=>
   cases ho
   have t17:=act_tmp (fev qa qb 3 17)
   have t23:=act_tmp (fev qa qb 9 23)
   exact Y54
  | 11=>
   cases ho
   have t24:=act_tmp (fev qa qb 10 24)
   obtain rfl:=hS.nil_ (hlim 0 12 rfl rfl)
   obtain⟨k0,k1,k2,k3,k4,k5,k6,k7,k8⟩:=HP.out
   simp only [OpC.at_] at k0 k1 k2 k3 k4 k5 k6 k7 k8
   exact vl ⟨rfl,rfl⟩
  | 12|13=>
   exact Y81
  | i+14=>exact absurd ho (by simp)
 case hlink=>
  intro k i o F U vs W hk ho hS hvl hat hoff hd
  have:=ot 0 g
  have:=ot 2 b2
  obtain⟨qa,qb⟩:=J2 hat hd
  clear hat hoff hd
  match k with
  | 0=>
   cases hk;cases ho;obtain rfl:=List.eq_nil_of_length_eq_zero hvl;have e25:=fev qa qb 11 25;have t25:=act_tmp e25;obtain rfl:=hS
   refine wp_enter' 80 #[.agg #[.int .i64 o.n,o.epoch,o.kind,o.site,o.client,o.seq,.string o.name,o.size,.slice oA on oc]] (by unfold execOp;go_simp) ?_
   refine (spotLed_any _ _ _ _ _ _ _ _ _ _).mono ?_
   rintro e W' ⟨rfl,hb⟩
   exact⟨_,rfl,_,rfl,rfl,hb⟩
  | 1=>
   cases hk;cases ho;obtain⟨u0,rfl⟩:=ln1 hvl;have e26:=cev qa qb 12 26;have t26:=act_tmp e26;obtain⟨hu,hb⟩:=hS;rw [hu] at e26;have t26:=act_tmp e26;have h2:=HB2.out.below hb HB2.out.lt;obtain⟨c0,c1⟩:=h2.cs 0 2;have f0:=h2.frozen
   refine wp_skip' ((W.setCell ⟨b2,0,none⟩ (.int .i64 o.n)).setCell ⟨b2,1,none⟩ (.int .i64 o.epoch)) (by unfold execOp;go_simp) ⟨_,rfl,(h2.set_ 0 _).set_ 1 _,((hb.mono (Nat.le_of_lt HB2.out.lt)).setCell (p:=⟨b2,0,none⟩) (Nat.le_refl _) _).setCell (p:=⟨b2,1,none⟩) (Nat.le_refl _) _⟩
  | k+2=>exact absurd hk (by simp)
 case hend=>
  intro U vs W hS hvl hfr hch
  obtain⟨x0,x1,rfl⟩:=ln2 hvl
  exact Y33
theorem last4 (G:Ending->World->Prop) (a:Act) (hfr:Fr 27 a [(0,v0),(2,b2)]) (hb:Blk w b2 26 #[x,y]) (hG:G (.returned (.agg #[x,y])) w) :
 (part [1,1,1] (codeOf lastFF)).wp prog (bodyPost prog lastFF G) a w:=by
 obtain⟨z0,z1⟩:=hb.cs 0 2
 have HG:=J hG
 clear hb hG
 refine gg hfr fun t=>?_
 go_wp2
 refine bodyPost_ret (v:=.agg #[x,y]) (by simp [results,results30,z0,z1,go_sem]) rfl ?_
 exact HG.out
theorem lastLed_any (hg:Blk w g 98 cs) (h5:cs[5]? = some (.slice A n c)) (ho:OpsIs w S A n c os) (hn:n<=1000) :
 Calls prog 30 #[.pointer (some ⟨g,0,none⟩)] w fun x w'=>(∃ u v,x=.returned (.agg #[.int .i64 u,.int .i64 v])/\LastV n os u v)/\Below w w w':=by
 have hgl:=hg.lt
 obtain⟨w1,hw1⟩:∃ w1,w1=w.alloc (.cells #[.int .i64 0,.int .i64 0] 26):=⟨_,rfl⟩
 have hb1:Below w w w1:=by rw [hw1];exact (Below.refl _ _).alloc (Nat.le_refl _) _
 have hn1:Blk w1 w 26 #[.int .i64 0,.int .i64 0]:=by rw [hw1];exact Blk.new _ _ _
 have hg1:=hg.below hb1 hgl
 have ho1:=ho.below hb1
 have c5:=hg1.cell 5
 rw [h5,hw1] at c5
 rcases Nat.eq_zero_or_pos n with h0|h0
 ·have d1:((n:Int)==0)=true:=beq_iff_eq.2 (by omega)
  have d2:(n==0)=true:=beq_iff_eq.2 h0
  clear hg h5 ho hn hw1 hb1 hn1 hg1 ho1 h0
  go_enter func30,ntmps30
  conv=>arg 2;arg 2;arg 2;change part [1,1] (codeOf lastFF)
  go_wp2
  refine bodyPost_ret (v:=.agg #[.int .i64 0,.int .i64 0]) (by simp [results,results30,go_sem]) rfl ?_
  exact⟨⟨_,_,rfl,.inl ⟨beq_iff_eq.1 d2,rfl,rfl⟩⟩,(Below.refl _ _).alloc (Nat.le_refl _) _⟩
 ·obtain⟨m,rfl⟩:∃ m,n=m+1:=⟨n-1,by omega⟩
  obtain⟨ad,o,oA,on,oc,rfl,hab,hck,hop,hss⟩:=ho1.at_ (k:=m) (by omega)
  have d1:(((m+1:Nat):Int)==0)=false:=beq_eq_false_iff_ne.2 (by omega)
  have d2:(m+1==0)=false:=beq_eq_false_iff_ne.2 (by omega)
  have d3:((m:Int)+1==0)=false:=beq_eq_false_iff_ne.2 (by omega)
  have rest:∀ a,Fr 27 a [(0,g),(2,(w:Nat))]->(part [1,1] (codeOf lastFF)).wp prog (bodyPost prog lastFF fun x w'=>(∃ u v,x=.returned (.agg #[.int .i64 u,.int .i64 v])/\LastV (m+1) os u v)/\Below w w w') a w1:=by
   intro a hfr
   refine Wt ?_
   refine last3 _ a hfr hg1 h5 hop (by omega) hn1 fun a2 w2 hf2 hh=>?_
   exact last4 _ a2 hf2 hh.1 ⟨⟨_,_,rfl,.inr ⟨m,o,rfl,hck,rfl,rfl⟩⟩,hb1.trans hh.2⟩
  obtain⟨HR,HW⟩:=J2 rest hw1
  clear rest hg h5 ho hn hw1 hb1 hn1 hg1 ho1 h0 hab hck hop hss
  go_enter func30,ntmps30
  conv=>arg 2;arg 2;arg 2;change part [1,1] (codeOf lastFF)
  go_wp2_with fail
  rw [<-HW.out]
  exact HR.out _ ff
end
@[reducible] noncomputable def applyLF:Func:=Try.f13
section
variable {fence:Int} {os:List OpC} {R:List OpC×Int} {B g k:Nat} {S Y:Nat->Prop} {w w2:World}
section
variable (kind epoch site:Int) (o:OpC) (hA:O) (hn hc:Nat) (after since:Int) (qA:O) (qn qc:Nat) (tag:Int)
include kind epoch site o hA hn hc after since qA qn qc tag
section
variable (ops:List OpC) (h:LedIs w B g Y k os fence) (hB:B<=w) (hb:Below w w w2) (hz:w.heap.size+2<=w2) (h5:Blk w2 w 47 (cmdC kind epoch site o hA hn hc after since qA qn qc tag)) (h8:Blk w2 (w.heap.size+1) 50 #[.int .i64 0,.int .i64 0,.int .i64 0])
include ops h hB hb hz h5 h8
theorem ap1 (hs:StrIs w S hA hn hc o.hs) (hf:Fits o) (hnew:os.length<64->opB (newOp os o epoch site)=true) (d1:(kind==1)=true) (hR:R=(if doesB os fence ⟨kind,epoch,site,o,after,since,ops,tag⟩=true then os++[newOp os o epoch site] else os,fence)) (a:Act) (hfr:Fr 40 a [(0,g),(3,(w:Nat)),(4,(w.heap.size+1:Nat))]) :
 (part [1,1,1] (codeOf applyLF)).wp prog (bodyPost prog applyLF fun x w'=>(∃ e n ep,x=.returned (doneV e n ep))/\Acted B g Y (k+80) R.1 R.2 w w') a w2:=by
 obtain⟨K8,KB1,KZ1⟩:=J3 h8 hb hz
 have KL:=J (h.below hb)
 obtain⟨H0,HB,HRE⟩:=J3 h hB hR
 obtain⟨c0,c1,c2,c3,c4,c5,c6,c7,c8,c9,c10,c11,c12,c13,c14,c15⟩:=h5.cs 0 16
 obtain⟨HSS,HF,HNW⟩:=J3 hs hf hnew
 clear h hB hb hz h5 h8 hR hs hf hnew
 refine gg hfr fun t=>?_
 go_wp2_with fail
 refine (do_any kind epoch site o hA hn hc after since qA qn qc tag ops KL.out (by have:=KZ1.out;have:=HB.out;omega) (HSS.out.below KB1.out) HF.out.size HF.out.ok.client HF.out.name HNW.out).mono ?_
 exact Y15
theorem ap3 (hops:OpsIs w S qA qn qc ops) (hS:∀ b,S b->¬ Y b) (hk:k<=900000) (hqn:qn<=1000) (hrow:rowB after since ops=true) (d1:(kind==1)=false) (d3:(kind==3)=true) (hR:R=(if shipsB os fence ⟨kind,epoch,site,o,after,since,ops,tag⟩=true then (shipOs os ⟨kind,epoch,site,o,after,since,ops,tag⟩,epoch) else (os,fence))) (a:Act) (hfr:Fr 40 a [(0,g),(3,(w:Nat)),(4,(w.heap.size+1:Nat))]) :
 (part [1,1,1] (codeOf applyLF)).wp prog (bodyPost prog applyLF fun x w'=>(∃ e n ep,x=.returned (doneV e n ep))/\Acted B g Y (k+80) R.1 R.2 w w') a w2:=by
 obtain⟨K8,KB1,KZ1⟩:=J3 h8 hb hz
 have KL:=J (h.below hb)
 obtain⟨H0,HB,HRE⟩:=J3 h hB hR
 obtain⟨c0,c1,c2,c3,c4,c5,c6,c7,c8,c9,c10,c11,c12,c13,c14,c15⟩:=h5.cs 0 16
 obtain⟨HOPS,HDJ,HK,HQN,HROW⟩:=J5 hops hS hk hqn hrow
 clear h hB hb hz h5 h8 hR hops hS hk hqn hrow
 refine gg hfr fun t=>?_
 go_wp2_with fail
 refine (ship_any kind epoch site o hA hn hc after since qA qn qc tag ops KL.out (by have:=KZ1.out;have:=HB.out;omega) (HOPS.out.below KB1.out) HDJ.out HROW.out HK.out HQN.out).mono ?_
 rintro x w3 ⟨⟨e,n,ep,rfl⟩,ha⟩
 have h83:Blk w3 (w.heap.size+1) 50 #[.int .i64 0,.int .i64 0,.int .i64 0]:=(ha.2.1.2 (w.heap.size+1) (fun hy=>by have:=(H0.out.1 _ hy).2;omega) (by have:=KZ1.out;omega)).trans K8.out
 have HA:=J ha
 dsimp only
 obtain⟨W,HWW,z0,z1,z2,HKK,HLL,y0,y1,y2,f0⟩:=de h83 e n ep
 clear ha
 clear h83
 go_wp2
 rw [<-HWW.out]
 refine dr e n ep ?_
 exact⟨⟨_,_,_,rfl⟩,by rw [HRE.out];exact Acted.boxed H0.out.1 HB.out KB1.out (HA.out) ⟨by omega,by have:=KZ1.out;omega⟩ HKK.out HLL.out⟩
end
section
variable (h:LedIs w B g Y k os fence) (hB:B<=w) (hb:Below w w w2) (hz:w.heap.size+2<=w2) (h5:Blk w2 w 47 (cmdC kind epoch site o hA hn hc after since qA qn qc tag)) (h8:Blk w2 (w.heap.size+1) 50 #[.int .i64 0,.int .i64 0,.int .i64 0])
include h hB hb hz h5 h8
theorem ap4 (hnew:os.length<80->opB (newOp os reignOp epoch site)=true) (d1:(kind==1)=false) (d3:(kind==3)=false) (d4:(kind==4)=true) (hR:R=(if epoch<=fence then (os,fence) else if 80<=os.length then (os,fence) else (os++[newOp os reignOp epoch site],epoch))) (a:Act) (hfr:Fr 40 a [(0,g),(3,(w:Nat)),(4,(w.heap.size+1:Nat))]) :
 (part [1,1,1] (codeOf applyLF)).wp prog (bodyPost prog applyLF fun x w'=>(∃ e n ep,x=.returned (doneV e n ep))/\Acted B g Y (k+80) R.1 R.2 w w') a w2:=by
 obtain⟨K8,KB1,KZ1⟩:=J3 h8 hb hz
 have KL:=J (h.below hb)
 obtain⟨H0,HB,HRE⟩:=J3 h hB hR
 obtain⟨c0,c1,c2,c3,c4,c5,c6,c7,c8,c9,c10,c11,c12,c13,c14,c15⟩:=h5.cs 0 16
 have HNW:=J hnew
 clear h hB hb hz h5 h8 hR hnew
 refine gg hfr fun t=>?_
 go_wp2_with fail
 refine (reign_any kind epoch site o hA hn hc after since qA qn qc tag KL.out (by have:=KZ1.out;have:=HB.out;omega) HNW.out).mono ?_
 exact Y15
theorem ap5 (haf:0<=after/\after<=4294967296) (d1:(kind==1)=false) (d3:(kind==3)=false) (d4:(kind==4)=false) (d5:(kind==5)=true) (hR:R=(os,fence)) (a:Act) (hfr:Fr 40 a [(0,g),(3,(w:Nat)),(4,(w.heap.size+1:Nat))]) :
 (part [1,1,1] (codeOf applyLF)).wp prog (bodyPost prog applyLF fun x w'=>(∃ e n ep,x=.returned (doneV e n ep))/\Acted B g Y (k+80) R.1 R.2 w w') a w2:=by
 obtain⟨K8,KB1,KZ1⟩:=J3 h8 hb hz
 have KL:=J (h.below hb)
 obtain⟨H0,HB,HRE⟩:=J3 h hB hR
 obtain⟨c0,c1,c2,c3,c4,c5,c6,c7,c8,c9,c10,c11,c12,c13,c14,c15⟩:=h5.cs 0 16
 have HAF:=J haf
 clear h hB hb hz h5 h8 hR haf
 refine gg hfr fun t=>?_
 go_wp2_with fail
 refine (mark_any kind epoch site o hA hn hc after since qA qn qc tag KL.out (by have:=KZ1.out;have:=HB.out;omega) HAF.out).mono ?_
 exact Y15
theorem ap6 (d1:(kind==1)=false) (d3:(kind==3)=false) (d4:(kind==4)=false) (d5:(kind==5)=false) (hR:R=(os,fence)) (a:Act) (hfr:Fr 40 a [(0,g),(3,(w:Nat)),(4,(w.heap.size+1:Nat))]) :
 (part [1,1,1] (codeOf applyLF)).wp prog (bodyPost prog applyLF fun x w'=>(∃ e n ep,x=.returned (doneV e n ep))/\Acted B g Y (k+80) R.1 R.2 w w') a w2:=by
 obtain⟨K8,KB1,KZ1⟩:=J3 h8 hb hz
 have KL:=J (h.below hb)
 obtain⟨H0,HB,HRE⟩:=J3 h hB hR
 obtain⟨c0,c1,c2,c3,c4,c5,c6,c7,c8,c9,c10,c11,c12,c13,c14,c15⟩:=h5.cs 0 16
 obtain⟨n1,n2,rA,rn,rc,sA,sn,sc,stt,hgz,hoz,-,-⟩:=KL.out.open_
 have hrl:=hoz.len
 have hr80:=KL.out.rows.len
 have HLZ:=J (lastLed_any hgz rfl hoz (by omega))
 clear hgz hoz hrl hr80
 clear h hB hb hz h5 h8 hR
 refine gg hfr fun t=>?_
 go_wp2_with fail
 refine HLZ.out.mono ?_
 rintro x w3 ⟨⟨n,ep,rfl,-⟩,hb3⟩
 have h83:=K8.out.below hb3 K8.out.lt
 have HB3:=J hb3
 dsimp only
 obtain⟨W,HWW,z0,z1,z2,HKK,HLL,y0,y1,y2,f0⟩:=de h83 0 n ep
 clear hb3
 clear h83
 go_wp2
 rw [<-HWW.out]
 refine dr 0 n ep ?_
 exact⟨⟨_,_,_,rfl⟩,by rw [HRE.out];exact Acted.boxed H0.out.1 HB.out KB1.out ((Acted.idle KL.out HB3.out (by have:=KZ1.out;have:=HB.out;omega)).more (Nat.le_add_right k 80)) ⟨by omega,by have:=KZ1.out;omega⟩ HKK.out HLL.out⟩
end
theorem apply_start (ops:List OpC) (h:LedIs w B g Y k os fence) (hB:B<=w) (hs:StrIs w S hA hn hc o.hs) (hops:OpsIs w S qA qn qc ops) (hok:(CmdC.mk kind epoch site o after since ops tag).Ok) (hqn:ops.length<=100000) (hno:cmdB ⟨kind,epoch,site,o,after,since,ops,tag⟩=false->R=(os,fence)) (hgo:cmdB ⟨kind,epoch,site,o,after,since,ops,tag⟩=true->∀ w2,Below w w w2->w.heap.size+2<=w2.heap.size->Blk w2 w 47 (cmdC kind epoch site o hA hn hc after since qA qn qc tag)->Blk w2 (w.heap.size+1) 50 #[.int .i64 0,.int .i64 0,.int .i64 0]->∀ a,Fr 40 a [(0,g),(3,(w:Nat)),(4,(w.heap.size+1:Nat))]->(part [1,1,1] (codeOf applyLF)).wp prog (bodyPost prog applyLF fun x w'=>(∃ e n ep,x=.returned (doneV e n ep))/\Acted B g Y (k+80) R.1 R.2 w w') a w2) :
 Calls prog 13 #[.pointer (some ⟨g,0,none⟩),.agg (cmdC kind epoch site o hA hn hc after since qA qn qc tag)] w fun x w'=>(∃ e n ep,x=.returned (doneV e n ep))/\Acted B g Y (k+80) R.1 R.2 w w':=by
 have h0:=h
 obtain⟨m1,m2,pA,pn,pc,lA,ln,lc,settled,hgb,hos,hlive,hlast⟩:=h.open_
 have hpn:=hos.len
 have hgl:=hgb.lt
 obtain⟨w1,hw1,hz1,hb1,h5,h8⟩:=two_boxes w (cmdC kind epoch site o hA hn hc after since qA qn qc tag)
 have hg1:=hgb.below hb1 hgl
 have ho1:=hos.below hb1
 obtain⟨HW,H8,HB1,HZ1,H0⟩:=J5 hw1 h8 hb1 hz1 h0
 have H1:=J (h0.below hb1)
 obtain⟨HB,HG,H5,HOS,HPN⟩:=J5 hB hg1 h5 ho1 hpn
 have hci:CmdIs w1 S (cmdC kind epoch site o hA hn hc after since qA qn qc tag) ⟨kind,epoch,site,o,after,since,ops,tag⟩:=⟨hA,hn,hc,qA,qn,qc,rfl,hs.below hb1,hops.below hb1⟩
 have HCK:=J (check11_any (cmdC kind epoch site o hA hn hc after since qA qn qc tag) ⟨kind,epoch,site,o,after,since,ops,tag⟩ w1 hci hok (show ops.length<=4294967296 by omega))
 obtain⟨k0,k1,k2,k3,k4,k5,k6,k7,k8,k9,k10,k11,k12,k13,k14,k15⟩:=h5.cs 0 16
 obtain⟨HNO,HGO⟩:=J2 hno hgo
 clear h0 h hgb hos hpn hlive hlast hw1 hz1 hb1 h5 h8 hg1 ho1 hB hci hs hops hok hqn hno hgo
 cases hcb:cmdB ⟨kind,epoch,site,o,after,since,ops,tag⟩ with
 | false=>
  have HCB:=J hcb
  clear hcb
  go_enter func13,ntmps13
  conv=>arg 2;arg 2;arg 2;arg 2;change part [1,1,1] (codeOf applyLF)
  go_wp2_with fail
  rw [<-HW.out]
  refine HCK.out.mono ?_
  rintro x w2 ⟨rfl,hb12⟩
  rw [HCB.out]
  have K8:=J (H8.out.below hb12 H8.out.lt)
  have KB1:=J (HB1.out.trans (hb12.mono (by have:=HZ1.out;omega)))
  have KZ1:=J (show w.heap.size+2<=w2 by have:=HZ1.out;have:=hb12.size;omega)
  have K5:=J (H5.out.below hb12 H5.out.lt)
  clear hb12
  dsimp only [errB]
  go_wp2_with fail
  refine (failed_any _ _).mono ?_
  rintro x w3 ⟨rfl,hb2⟩
  have hb2':Below w2 w2 w3:=⟨hb2.os,hb2.tape,hb2.output,hb2.size,hb2.block⟩
  have h82:=K8.out.below hb2' K8.out.lt
  obtain⟨W,hW,z0,z1,z2,hk,hl⟩:=done_end h82 rfl (.int .i64 3) (.int .i64 0) (.int .i64 0)
  obtain⟨y0,y1,y2⟩:=h82.cs 0 3
  have f0:=h82.frozen
  obtain⟨HWW,HKK,HLL,HB2⟩:=J4 hW hk hl hb2'
  clear hb2 hb2'
  clear h82 hk hl hW
  go_wp2
  rw [<-HWW.out]
  refine dr 3 0 0 ?_
  exact⟨⟨_,_,_,rfl⟩,by rw [HNO.out HCB.out];exact Acted.idle (H0.out.more (Nat.le_add_right k 80)) (KB1.out.trans ((HB2.out.mono (by have:=KZ1.out;omega)).trans (HLL.out.mono (by omega)))) HB.out⟩
 | true=>
  exact Y27
end
theorem apply_any (cells:Array Value) (c:CmdC) (h:LedIs w B g Y k os fence) (hB:B<=w) (hc:CmdIs w S cells c) (hok:c.Ok) (hS:∀ b,S b->¬ Y b) (hk:k<=900000) (hqn:c.ops.length<=100000) :
 Calls prog 13 #[.pointer (some ⟨g,0,none⟩),.agg cells] w fun x w'=>(∃ e n ep,x=.returned (doneV e n ep))/\Acted B g Y (k+80) (stepC os fence c).1 (stepC os fence c).2 w w':=by
 obtain⟨hA,hn,hcc,qA,qn,qc,rfl,hs,hops⟩:=hc
 obtain⟨kind,epoch,site,o,after,since,ops,tag⟩:=c
 simp only at hs hops hqn ⊢
 have hql:=hops.len
 refine apply_start kind epoch site o hA hn hcc after since qA qn qc tag ops h hB hs hops hok hqn (fun hcb=>?_) fun hcb w2 b1 b2 b3 b4 a hfr=>?_
 ·unfold stepC
  rw [if_pos hcb]
 have hst:stepC os fence ⟨kind,epoch,site,o,after,since,ops,tag⟩=if kind=1 then (if doesB os fence ⟨kind,epoch,site,o,after,since,ops,tag⟩=true then os++[newOp os o epoch site] else os,fence) else if kind=3 then (if shipsB os fence ⟨kind,epoch,site,o,after,since,ops,tag⟩=true then (shipOs os ⟨kind,epoch,site,o,after,since,ops,tag⟩,epoch) else (os,fence)) else if kind=4 then (if epoch<=fence then (os,fence) else if 80<=os.length then (os,fence) else (os++[newOp os reignOp epoch site],epoch)) else (os,fence):=by
  unfold stepC
  rw [if_neg (by rw [hcb];decide)]
 by_cases q1:kind=1
 ·rw [if_pos q1] at hst
  have hdo:=cmdB_do hcb q1
  have hf:Fits o:=by
   have:=opB_fits hdo.1
   exact⟨⟨hok.op.n,hok.op.epoch,this.ok.kind,hok.op.site,this.ok.client,this.ok.seq,this.ok.name,this.ok.size,this.ok.hs⟩,this.name,this.size⟩
  exact ap1 kind epoch site o hA hn hcc after since qA qn qc tag ops h hB b1 b2 b3 b4 hs hf (fun hl=>newOp_do hcb q1 hl) (beq_iff_eq.2 q1) hst a hfr
 rw [if_neg q1] at hst
 have d1:(kind==1)=false:=beq_eq_false_iff_ne.2 q1
 by_cases q3:kind=3
 ·rw [if_pos q3] at hst
  exact ap3 kind epoch site o hA hn hcc after since qA qn qc tag ops h hB b1 b2 b3 b4 hops hS hk (by have:=(cmdB_ship hcb q3).2.2.2.2.2;simp only at this;omega) (cmdB_ship hcb q3).1 d1 (beq_iff_eq.2 q3) hst a hfr
 rw [if_neg q3] at hst
 have d3:(kind==3)=false:=beq_eq_false_iff_ne.2 q3
 by_cases q4:kind=4
 ·rw [if_pos q4] at hst
  exact ap4 kind epoch site o hA hn hcc after since qA qn qc tag h hB b1 b2 b3 b4 (fun hl=>newOp_reign hcb q4 hl) d1 d3 (beq_iff_eq.2 q4) hst a hfr
 rw [if_neg q4] at hst
 have d4:(kind==4)=false:=beq_eq_false_iff_ne.2 q4
 by_cases q5:kind=5
 ·have hm:=cmdB_mark hcb q5
  simp only at hm
  exact ap5 kind epoch site o hA hn hcc after since qA qn qc tag h hB b1 b2 b3 b4 (by omega) d1 d3 d4 (beq_iff_eq.2 q5) hst a hfr
 ·exact ap6 kind epoch site o hA hn hcc after since qA qn qc tag h hB b1 b2 b3 b4 d1 d3 d4 (beq_eq_false_iff_ne.2 q5) hst a hfr
end
section
variable {fence:Int} {Z:Int->Prop} {os:List OpC} {R:List OpC×Int} {B g k:Nat} {S Y:Nat->Prop} {w w2:World}
section
variable (kind epoch site:Int) (o:OpC) (hA:O) (hn hc:Nat) (after since:Int) (qA:O) (qn qc:Nat) (tag:Int) (h:LedIs w B g Y k os fence) (hB:B<=w)
include kind epoch site o hA hn hc after since qA qn qc tag h hB
theorem reign_e (ho:os.length<80->opB (newOp os reignOp epoch site)=true) :
 Calls prog 45 #[.pointer (some ⟨g,0,none⟩),.agg (cmdC kind epoch site o hA hn hc after since qA qn qc tag)] w fun x w'=>(∃ e n ep,x=.returned (doneV e n ep)/\(e=0->fence<epoch/\os.length<80))/\
  Acted B g Y k (if epoch<=fence then (os,fence) else if 80<=os.length then (os,fence) else (os++[newOp os reignOp epoch site],epoch)).1 (if epoch<=fence then (os,fence) else if 80<=os.length then (os,fence) else (os++[newOp os reignOp epoch site],epoch)).2 w w':=by
 have h0:=h
 obtain⟨m1,m2,pA,pn,pc,lA,ln,lc,settled,hgb,hos,hlive,hlast⟩:=h.open_
 have hpn:=hos.len
 have hgl:=hgb.lt
 obtain⟨w1,hw1,hz1,hb1,h5,h8⟩:=two_boxes w (cmdC kind epoch site o hA hn hc after since qA qn qc tag)
 have hg1:=hgb.below hb1 hgl
 have ho1:=hos.below hb1
 obtain⟨HW,H8,HB1,HZ1,H0⟩:=J5 hw1 h8 hb1 hz1 h0
 have H1:=J (h0.below hb1)
 obtain⟨HB,HG,H5,HOS,HPN⟩:=J5 hB hg1 h5 ho1 hpn
 have g5:=hg1.c1 5
 have g7:=hg1.c1 7
 obtain⟨k1,k2⟩:=h5.cs 1 2
 have f7:=hg1.frozen 7
 by_cases c1:epoch<=fence
 ·rw [if_pos c1]
  have d1:decide (epoch<=fence)=true:=decide_eq_true c1
  clear h0 h hgb hos hpn hlive hlast hw1 hz1 hb1 h5 h8 hg1 ho1 hB ho c1
  go_enter func45,ntmps45
  go_wp2_with fail
  rw [<-HW.out]
  go_quiet (fail)
  go_wp2_with fail
  refine (failed_any _ _).mono ?_
  rintro x w2 ⟨rfl,hb2⟩
  have hb2':Below w1 w1 w2:=⟨hb2.os,hb2.tape,hb2.output,hb2.size,hb2.block⟩
  have h82:=H8.out.below hb2' H8.out.lt
  obtain⟨W,hW,z0,z1,z2,hk,hl⟩:=done_end h82 rfl (.int .i64 120) (.int .i64 0) (.int .i64 0)
  obtain⟨y0,y1,y2⟩:=h82.cs 0 3
  have f0:=h82.frozen
  obtain⟨HWW,HKK,HLL,HB2⟩:=J4 hW hk hl hb2'
  clear hb2 hb2'
  clear h82 hk hl hW
  go_wp2
  rw [<-HWW.out]
  refine dr 120 0 0 ?_
  exact Y89
 rw [if_neg c1]
 have d1:decide (epoch<=fence)=false:=decide_eq_false c1
 by_cases c2:80<=os.length
 ·rw [if_pos c2]
  have d2:decide ((80:Int)<=(pn:Int))=true:=decide_eq_true (by omega)
  clear h0 h hgb hos hpn hlive hlast hw1 hz1 hb1 h5 h8 hg1 ho1 hB ho c1 c2
  go_enter func45,ntmps45
  go_wp2_with fail
  rw [<-HW.out]
  go_quiet (fail)
  go_wp2_with fail
  refine (failed_any _ _).mono ?_
  rintro x w2 ⟨rfl,hb2⟩
  have hb2':Below w1 w1 w2:=⟨hb2.os,hb2.tape,hb2.output,hb2.size,hb2.block⟩
  have h82:=H8.out.below hb2' H8.out.lt
  obtain⟨W,hW,z0,z1,z2,hk,hl⟩:=done_end h82 rfl (.int .i64 125) (.int .i64 0) (.int .i64 0)
  obtain⟨y0,y1,y2⟩:=h82.cs 0 3
  have f0:=h82.frozen
  obtain⟨HWW,HKK,HLL,HB2⟩:=J4 hW hk hl hb2'
  clear hb2 hb2'
  clear h82 hk hl hW
  go_wp2
  rw [<-HWW.out]
  refine dr 125 0 0 ?_
  exact Y89
 rw [if_neg c2]
 have d2:decide ((80:Int)<=(pn:Int))=false:=decide_eq_false (by omega)
 obtain⟨HC,HE⟩:=J2 c2 c1
 have HO:=J (ho (by omega))
 clear h0 h hgb hos hpn hlive hlast hw1 hz1 hb1 h5 h8 hg1 ho1 hB ho c1 c2
 go_enter func45,ntmps45
 go_wp2_with fail
 rw [<-HW.out]
 go_quiet (fail)
 go_wp2_with fail
 have hq:Below w1 w1 (w1.drewN nq):=below_drewN (Below.refl _ _) _
 have hs1:=HZ1.out
 have hBw:=HB.out
 have ha1:=(H1.out.below hq).fence_ epoch (by have:=hq.size;omega)
 have s1:=ha1.2.1.1
 refine (put_led (S:=Any) (o:=reignOp) (A:=none) (n:=0) (c:=0) epoch site ha1.1 ⟨Rs.nil_ _ _ _ _,Nat.le_refl _,Nat.zero_le _⟩ (by have:=HC.out;omega) HO.out (by have:=hq.size;omega)).mono ?_
 rintro x w2 ⟨rfl,ha2⟩
 have ha:=Acted.trans (w:=w1.drewN nq) H1.out.1 ha1 ha2 (by have:=hq.size;omega)
 have h82:Blk w2 (w.heap.size+1) 50 #[.int .i64 0,.int .i64 0,.int .i64 0]:=(ha.2.1.2 (w.heap.size+1) (fun hy=>by have:=(H0.out.1 _ hy).2;omega) (by have:=hq.size;omega)).trans H8.out
 have HA:=J ha
 dsimp only
 obtain⟨W,HWW,z0,z1,z2,HKK,HLL,y0,y1,y2,f0⟩:=de h82 0 ((os.length:Int)+1) epoch
 clear ha ha1 ha2 s1 hs1 hq hBw
 clear h82
 go_wp2
 rw [<-HWW.out]
 refine dr 0 ((os.length:Int)+1) epoch ?_
 exact⟨⟨_,_,_,rfl,fun _=>⟨by have:=HE.out;omega,by have:=HC.out;omega⟩⟩,Acted.boxed H0.out.1 HB.out (below_drewN HB1.out _) HA.out ⟨by omega,by have:=HZ1.out;show w.heap.size+1<w1;omega⟩ HKK.out HLL.out⟩
theorem ap4_e (hb:Below w w w2) (hz:w.heap.size+2<=w2) (h5:Blk w2 w 47 (cmdC kind epoch site o hA hn hc after since qA qn qc tag)) (h8:Blk w2 (w.heap.size+1) 50 #[.int .i64 0,.int .i64 0,.int .i64 0]) (hnew:os.length<80->opB (newOp os reignOp epoch site)=true) (d1:(kind==1)=false) (d3:(kind==3)=false) (d4:(kind==4)=true) (hR:R=(if epoch<=fence then (os,fence) else if 80<=os.length then (os,fence) else (os++[newOp os reignOp epoch site],epoch))) (a:Act) (hfr:Fr 40 a [(0,g),(3,(w:Nat)),(4,(w.heap.size+1:Nat))]) :
 (part [1,1,1] (codeOf applyLF)).wp prog (bodyPost prog applyLF fun x w'=>(∃ e n ep,x=.returned (doneV e n ep)/\(e=0->fence<epoch/\os.length<80))/\Acted B g Y (k+80) R.1 R.2 w w') a w2:=by
 obtain⟨K8,KB1,KZ1⟩:=J3 h8 hb hz
 have KL:=J (h.below hb)
 obtain⟨H0,HB,HRE⟩:=J3 h hB hR
 obtain⟨c0,c1,c2,c3,c4,c5,c6,c7,c8,c9,c10,c11,c12,c13,c14,c15⟩:=h5.cs 0 16
 have HNW:=J hnew
 clear h hB hb hz h5 h8 hR hnew
 refine gg hfr fun t=>?_
 go_wp2_with fail
 refine (reign_e kind epoch site o hA hn hc after since qA qn qc tag KL.out (by have:=KZ1.out;have:=HB.out;omega) HNW.out).mono ?_
 rintro x w3 ⟨⟨e,n,ep,rfl,hz⟩,ha⟩
 have HZ:=J hz
 clear hz
 have h83:Blk w3 (w.heap.size+1) 50 #[.int .i64 0,.int .i64 0,.int .i64 0]:=(ha.2.1.2 (w.heap.size+1) (fun hy=>by have:=(H0.out.1 _ hy).2;omega) (by have:=KZ1.out;omega)).trans K8.out
 have HA:=J ha
 dsimp only
 obtain⟨W,HWW,z0,z1,z2,HKK,HLL,y0,y1,y2,f0⟩:=de h83 e n ep
 clear ha
 clear h83
 go_wp2
 rw [<-HWW.out]
 refine dr e n ep ?_
 exact⟨⟨_,_,_,rfl,HZ.out⟩,by rw [HRE.out];exact Acted.boxed H0.out.1 HB.out KB1.out (HA.out.more (Nat.le_add_right k 80)) ⟨by omega,by have:=KZ1.out;omega⟩ HKK.out HLL.out⟩
end
theorem apply_start_e (hz3:Z 3) (kind epoch site:Int) (o:OpC) (hA:O) (hn hc:Nat) (after since:Int) (qA:O) (qn qc:Nat) (tag:Int) (ops:List OpC) (h:LedIs w B g Y k os fence) (hB:B<=w) (hs:StrIs w S hA hn hc o.hs) (hops:OpsIs w S qA qn qc ops) (hok:(CmdC.mk kind epoch site o after since ops tag).Ok) (hqn:ops.length<=100000) (hno:cmdB ⟨kind,epoch,site,o,after,since,ops,tag⟩=false->R=(os,fence)) (hgo:cmdB ⟨kind,epoch,site,o,after,since,ops,tag⟩=true->∀ w2,Below w w w2->w.heap.size+2<=w2.heap.size->Blk w2 w 47 (cmdC kind epoch site o hA hn hc after since qA qn qc tag)->Blk w2 (w.heap.size+1) 50 #[.int .i64 0,.int .i64 0,.int .i64 0]->∀ a,Fr 40 a [(0,g),(3,(w:Nat)),(4,(w.heap.size+1:Nat))]->(part [1,1,1] (codeOf applyLF)).wp prog (bodyPost prog applyLF fun x w'=>(∃ e n ep,x=.returned (doneV e n ep)/\Z e)/\Acted B g Y (k+80) R.1 R.2 w w') a w2) :
 Calls prog 13 #[.pointer (some ⟨g,0,none⟩),.agg (cmdC kind epoch site o hA hn hc after since qA qn qc tag)] w fun x w'=>(∃ e n ep,x=.returned (doneV e n ep)/\Z e)/\Acted B g Y (k+80) R.1 R.2 w w':=by
 have h0:=h
 obtain⟨m1,m2,pA,pn,pc,lA,ln,lc,settled,hgb,hos,hlive,hlast⟩:=h.open_
 have hpn:=hos.len
 have hgl:=hgb.lt
 obtain⟨w1,hw1,hz1,hb1,h5,h8⟩:=two_boxes w (cmdC kind epoch site o hA hn hc after since qA qn qc tag)
 have hg1:=hgb.below hb1 hgl
 have ho1:=hos.below hb1
 obtain⟨HW,H8,HB1,HZ1,H0⟩:=J5 hw1 h8 hb1 hz1 h0
 have H1:=J (h0.below hb1)
 obtain⟨HB,HG,H5,HOS,HPN⟩:=J5 hB hg1 h5 ho1 hpn
 have hci:CmdIs w1 S (cmdC kind epoch site o hA hn hc after since qA qn qc tag) ⟨kind,epoch,site,o,after,since,ops,tag⟩:=⟨hA,hn,hc,qA,qn,qc,rfl,hs.below hb1,hops.below hb1⟩
 have HCK:=J (check11_any (cmdC kind epoch site o hA hn hc after since qA qn qc tag) ⟨kind,epoch,site,o,after,since,ops,tag⟩ w1 hci hok (show ops.length<=4294967296 by omega))
 obtain⟨k0,k1,k2,k3,k4,k5,k6,k7,k8,k9,k10,k11,k12,k13,k14,k15⟩:=h5.cs 0 16
 obtain⟨HNO,HGO⟩:=J2 hno hgo
 clear h0 h hgb hos hpn hlive hlast hw1 hz1 hb1 h5 h8 hg1 ho1 hB hci hs hops hok hqn hno hgo
 cases hcb:cmdB ⟨kind,epoch,site,o,after,since,ops,tag⟩ with
 | false=>
  have HCB:=J hcb
  clear hcb
  go_enter func13,ntmps13
  conv=>arg 2;arg 2;arg 2;arg 2;change part [1,1,1] (codeOf applyLF)
  go_wp2_with fail
  rw [<-HW.out]
  refine HCK.out.mono ?_
  rintro x w2 ⟨rfl,hb12⟩
  rw [HCB.out]
  have K8:=J (H8.out.below hb12 H8.out.lt)
  have KB1:=J (HB1.out.trans (hb12.mono (by have:=HZ1.out;omega)))
  have KZ1:=J (show w.heap.size+2<=w2 by have:=HZ1.out;have:=hb12.size;omega)
  have K5:=J (H5.out.below hb12 H5.out.lt)
  clear hb12
  dsimp only [errB]
  go_wp2_with fail
  refine (failed_any _ _).mono ?_
  rintro x w3 ⟨rfl,hb2⟩
  have hb2':Below w2 w2 w3:=⟨hb2.os,hb2.tape,hb2.output,hb2.size,hb2.block⟩
  have h82:=K8.out.below hb2' K8.out.lt
  obtain⟨W,hW,z0,z1,z2,hk,hl⟩:=done_end h82 rfl (.int .i64 3) (.int .i64 0) (.int .i64 0)
  obtain⟨y0,y1,y2⟩:=h82.cs 0 3
  have f0:=h82.frozen
  obtain⟨HWW,HKK,HLL,HB2⟩:=J4 hW hk hl hb2'
  clear hb2 hb2'
  clear h82 hk hl hW
  go_wp2
  rw [<-HWW.out]
  refine dr 3 0 0 ?_
  exact⟨⟨_,_,_,rfl,hz3⟩,by rw [HNO.out HCB.out];exact Acted.idle (H0.out.more (Nat.le_add_right k 80)) (KB1.out.trans ((HB2.out.mono (by have:=KZ1.out;omega)).trans (HLL.out.mono (by omega)))) HB.out⟩
 | true=>
  exact Y27
theorem apply_reign (cells:Array Value) (c:CmdC) (h:LedIs w B g Y k os fence) (hB:B<=w) (hc:CmdIs w S cells c) (hok:c.Ok) (hqn:c.ops.length<=100000) (hk4:c.kind=4) :
 Calls prog 13 #[.pointer (some ⟨g,0,none⟩),.agg cells] w fun x w'=>(∃ e n ep,x=.returned (doneV e n ep)/\(e=0->fence<c.epoch/\os.length<80))/\Acted B g Y (k+80) (stepC os fence c).1 (stepC os fence c).2 w w':=by
 obtain⟨hA,hn,hcc,qA,qn,qc,rfl,hs,hops⟩:=hc
 obtain⟨kind,epoch,site,o,after,since,ops,tag⟩:=c
 simp only at hs hops hqn hk4 ⊢
 subst hk4
 have hql:=hops.len
 refine apply_start_e (Z:=fun e=>e=0->fence<epoch/\os.length<80) (fun h=>absurd h (by decide)) 4 epoch site o hA hn hcc after since qA qn qc tag ops h hB hs hops hok hqn (fun hcb=>?_) fun hcb w2 b1 b2 b3 b4 a hfr=>?_
 ·unfold stepC
  rw [if_pos hcb]
 have hst:stepC os fence ⟨4,epoch,site,o,after,since,ops,tag⟩=if epoch<=fence then (os,fence) else if 80<=os.length then (os,fence) else (os++[newOp os reignOp epoch site],epoch):=by
  unfold stepC
  rw [if_neg (by rw [hcb];decide)]
  rfl
 exact ap4_e 4 epoch site o hA hn hcc after since qA qn qc tag h hB b1 b2 b3 b4 (fun hl=>newOp_reign hcb rfl hl) rfl rfl rfl hst a hfr
end
end Go.Proofs.Ytaipgdhdfpemcaa
