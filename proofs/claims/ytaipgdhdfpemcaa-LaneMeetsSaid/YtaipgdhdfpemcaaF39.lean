/- THE WALKS OF THE LANE, part 39. -/
import Derived.Test.YtaipgdhdfpemcaaF30
import Derived.Test.YtaipgdhdfpemcaaF37
import Derived.Test.YtaipgdhdfpemcaaF38
namespace Go.Proofs.Ytaipgdhdfpemcaa
set_option linter.all false
open Go.RowKit Go.Proofs.Try
set_option maxRecDepth 100000
set_option maxHeartbeats 4000000
def RoI (w wb:World) (B g b6:Nat) (Y S:Nat->Prop) (k:Nat) (os:List OpC) (epoch0:Int) (C:Array Value) (qA:O) (qn qc:Nat) (ops:List OpC) (N E:Int) (a:Act) (W:World):Prop:=
 ∃ j:Nat,j<=qn/\Fr 220 a [(0,g),(3,(w:Nat)),(4,(w.heap.size+1:Nat)),(6,b6),(7,.int .i64 (j:Nat))]/\RShipAt w wb W B g b6 Y S k os epoch0 C qA qn qc ops N E/\∀ (i:Nat) (x:OpC),ops[i]? = some x->i<j->hasL os x.n x.epoch=true
def muRo (qn:Nat) (a:Act):Nat:=qn-(match at_ a.tmps 7 with|.int _ z=>z.toNat|_=>0)
section
variable {w wb W:World} {B g b6:Nat} {Y S:Nat->Prop} {k:Nat} {os:List OpC} {epoch0:Int} {kind epoch site:Int} {o:OpC} {hA:O} {hn hc:Nat} {after since:Int} {qA:O} {qn qc:Nat} {tag:Int} {ops:List OpC} {N E:Int}
theorem rs_put {j b8 m:Nat} {x:OpC} {xA:O} {xn xc:Nat} (h:RShipAt w wb W B g b6 Y S k os epoch0 (cmdC kind epoch site o hA hn hc after since qA qn qc tag) qA qn qc ops N E) (hb8:Blk W b8 45 (oC x.n x.epoch x.kind x.site x.client x.seq x.name x.size xA xn xc)) {Y0:Nat->Prop} (hled:RLedIs W B g Y0 k os epoch0) (hY0:∀ b,Y0 b->New Y wb W b) (hn8:¬ Y0 b8) (hx:x.n=(m:Int)+1) (hml:m<=os.length) (hj:j<qn) (hqn:qn<=1000) (hk:k<=900000) (hrows:Rows (os.take m++ops.drop j)) (Q:Z) (a:Act) (hfr:Fr 220 a [(0,g),(3,(w:Nat)),(4,(w.heap.size+1:Nat)),(6,b6),(7,.int .i64 (j:Nat)),(8,b8)]) (hQ:∀ a' W',Fr 220 a' [(0,g),(3,(w:Nat)),(4,(w.heap.size+1:Nat)),(6,b6)]->RShipAt w wb W' B g b6 Y S (k+80) (os.take m++ops.drop j) epoch0 (cmdC kind epoch site o hA hn hc after since qA qn qc tag) qA qn qc ops N E->Q (.exit 0) a' W') :
 (part [1,1,1,1,1,1,0,1,0,0,1,0,0,1,1,1] (codeOf rshipFF)).wp prog Q a W:=by
 have hol:=h.led.rows.len
 have hY':=h.led.1
 have hgY:=hled.bY
 obtain⟨-,hr,X,pA,pn,pc,lA,ln,lc,st,hl,hX,hln⟩:=hled
 have hpn:=hl.len
 obtain⟨qad,_,_,_,_,rfl,-⟩:=h.hops.at_ hj
 have hqc:qn<=qc/\qc<=maxLen:=by obtain⟨_,_,_,h1,h2⟩:=h.hops;exact⟨h1,h2⟩
 have hgl:=hl.blk.lt
 refine Ytaipgdhdfpemcaa.w2 ?_
 refine Ytaipgdhdfpemcaa.w2 ?_
 refine r15 hb8 hx (by omega) _ a hfr fun a1 hf1=>?_
 show (part [1,1,1,1,1,1,0,1,0,0,1,0,0,1,1,1,0,1] (codeOf rshipFF)).wp prog _ a1 W
 refine rs_loop hl (by omega) (by omega) h.hBW _ a1 hf1 fun a2 w2 lA2 lc2 hf2 hl2 hk2 hlow2 hob=>?_
 show (part [1,1,1,1,1,1,0,1,0,0,1,0,0,1,1,1,1] (codeOf rshipFF)).wp prog Q a2 w2
 have s2:=hk2.1
 have hb8lt:=hb8.lt
 have hb8g:b8≠g:=fun e=>hn8 (e▸hgY)
 have hb8l:some b8≠ob lA:=fun e=>hn8 (hX b8 (.inr (.inr e.symm)))
 have hb82:=(hk2.2 b8 ⟨hb8g,hb8l⟩ hb8lt).trans hb8
 refine Ytaipgdhdfpemcaa.w2 ?_
 refine rs21 _ a2 hf2 hl2.blk hb82 (by omega) fun a3 hf3=>?_
 show (part [1,1,1,1,1,1,0,1,0,0,1,0,0,1,1,1,1,1] (codeOf rshipFF)).wp prog Q a3 _
 obtain⟨w3,hw3⟩:∃ w3,w3=w2.drew.setCell ⟨g,3,none⟩ (.int .i64 (min st (x.n-1))):=⟨_,rfl⟩
 rw [<-hw3]
 have hne3:∀ b,b≠g->w3.heap[b]? = w2.heap[b]?:=fun b hb=>by rw [hw3];exact Below.heap_setCell _ _ _ b hb
 have hsz3:w3.heap.size=w2.heap.size:=by rw [hw3];simp
 have hlow3:Below B w2 w3:=by rw [hw3];exact Below.setCell (p:=⟨g,3,none⟩) ((Below.refl _ _).drew) hl.bb _
 have hl3:RLed w3 B X g os pA pn pc lA2 (ln+(pn-m)) lc2 epoch0 (min st (x.n-1)):=by
  obtain⟨xs,hxs⟩:=hl2.lost
  refine⟨?_,hl2.row.kept ⟨by omega,fun b hb _=>hne3 b fun e=>hl2.nb (e▸hb)⟩,⟨xs,ownsRow_keep hxs fun q hq=>hne3 q ?_⟩,hl2.nb,hl2.bb,hl2.nl,fun q hq=>by rw [hsz3];exact hl2.xlt q hq⟩
  ·rw [hw3]
   exact Blk.set_ (w:=w2.drew) hl2.blk 3 _
  ·rw [ownBlock_slice] at hq
   exact (hl2.nl q hq).2
 have hzb:=h.hz
 have hsb:=h.size
 have hc3:Kept (fun b=>b≠g/\some b≠ob lA) W w3:=⟨by omega,fun b hb hlt=>(hne3 b hb.1).trans (hk2.2 b hb hlt)⟩
 have hcmd:∀ b,¬ New Y wb W b->b≠g/\some b≠ob lA:=fun b hb=>⟨fun e=>hb (hY0 b (e▸hgY)),fun e=>hb (hY0 b (hX b (.inr (.inr e.symm))))⟩
 have h53:=(hc3.2 _ (hcmd _ (h.gne w.heap.size (Nat.le_refl _) (by omega))) (by omega)).trans h.h5
 have hb83:=(hc3.2 b8 ⟨hb8g,hb8l⟩ hb8lt).trans hb8
 have hSn:∀ b,S b->¬ New Y wb W b:=fun b hb hx=>by
  have:=h.hS b hb
  rcases hx with hx|hx
  ·exact this.1 hx
  ·have:=h.h6;omega
 have hrest:=(h.hops.drop_ (n:=j) hj).kept (hc3.mono fun b _ hb=>hcmd b (hSn b hb))
 have hmo:∀ y∈ops.drop j,y.Ok:=fun y hy=>(hrows.fits y (List.mem_append_right _ hy)).ok
 refine Ytaipgdhdfpemcaa.w2 ?_
 have hBW:=h.hBW
 refine rs22 _ a3 hf3 hl3 hb83 h53 hrest hmo hx (by omega) hj hqc.1 hqc.2 (by omega) (by omega) fun a4 w4 hf4 hh=>?_
 obtain⟨A4,c4,X4,hl4,hk4,hlow4,hX4⟩:=hh
 have s4:=hk4.1
 have ee:part [1,1,1,1,1,1,0,1,0,0,1,0,0,1,1,1,1,1,1] (codeOf rshipFF)=Code.exit 0:=by kernel_rfl
 show (part [1,1,1,1,1,1,0,1,0,0,1,0,0,1,1,1,1,1,1] (codeOf rshipFF)).wp prog Q a4 w4
 rw [ee]
 refine wp_exit (hQ a4 w4 hf4 (h.acted (RActed.of hY' hBW (fun q hq=>hY0 q (hX q hq)) hl4 hrows ⟨by omega,fun b hb hlt=>?_⟩ ((hlow2.trans hlow3).trans hlow4) (fun q hq=>(hX4 q hq).imp id fun h=>by omega) hob (by omega))))
 have bg:b≠g:=fun e=>hb (.inr (.inl e))
 have bl:some b≠ob lA:=fun e=>hb (.inr (.inr e.symm))
 exact ((hk4.2 b ⟨fun e=>hb (.inl e),bg⟩ (by omega)).trans (hne3 b bg)).trans (hk2.2 b ⟨bg,bl⟩ hlt)
end
section
variable {e n:Int} {os:List OpC} {m:Nat} {y:OpC}
theorem hasL_at (hn:n=(m:Int)+1) (hy:os[m]? = some y):hasL os n e=decide (y.epoch=e):=by
 have hl:=(List.getElem?_eq_some_iff.1 hy).1
 have e1:(n-1).toNat=m:=by omega
 unfold hasL
 rw [decide_eq_false (show ¬ n=0 by omega),decide_eq_true (show n<=(os.length:Int) by omega),e1,hy]
 rfl
theorem hasL_high (hn:1<=n) (h:(os.length:Int)<n):hasL os n e=false:=by
 unfold hasL
 rw [decide_eq_false (show ¬ n=0 by omega),decide_eq_false (show ¬ n<=(os.length:Int) by omega)]
 rfl
end
section
variable {w wb W:World} {B g b6:Nat} {Y S:Nat->Prop} {k:Nat} {os:List OpC} {epoch0:Int} {kind epoch site:Int} {o:OpC} {hA:O} {hn hc:Nat} {after since:Int} {qA:O} {qn qc:Nat} {tag:Int} {ops:List OpC} {N E:Int}
section
variable {K:Act->World->Prop} {E0 N0:Int}
theorem rs_round (hrow:rowB N0 E0 ops=true) (hhas:hasL os N0 E0=true) (hk:k<=900000) (hqn:qn<=1000) (Q:Z) (hexit:∀ a' W',Fr 220 a' [(0,g),(3,(w:Nat)),(4,(w.heap.size+1:Nat)),(6,b6)]->RShipAt w wb W' B g b6 Y S (k+80) (shipTo os ops) epoch0 (cmdC kind epoch site o hA hn hc after since qA qn qc tag) qA qn qc ops N E->Q (.exit 0) a' W') (hret:shipTo os ops=os->∀ a W,bodyPost prog rshipFF (fun e w'=>(∃ u n ep,e=.returned (doneV u n ep))/\RActed B g Y (k+80) os epoch0 w w') .ret a W->Q .ret a W) (a:Act) (W:World) (hI:RoI w wb B g b6 Y S k os epoch0 (cmdC kind epoch site o hA hn hc after since qA qn qc tag) qA qn qc ops N E a W) (hQ:∀ a' W',RoI w wb B g b6 Y S k os epoch0 (cmdC kind epoch site o hA hn hc after since qA qn qc tag) qA qn qc ops N E a' W'/\muRo qn a'<muRo qn a->Q .normal a' W'):(part [1,1,1,1,1,1,0,1,0,0] (codeOf rshipFF)).wp prog Q a W:=by
 obtain⟨j,hj,hf,hs,hhad⟩:=hI
 have hlen:=hs.hops.len
 refine Ytaipgdhdfpemcaa.w2 ?_
 rcases Nat.lt_or_ge j qn with hj1|hj1
 ·refine r9_yes hs hj1 _ a hf fun a1 hf1=>?_
  show (part [1,1,1,1,1,1,0,1,0,0,1] (codeOf rshipFF)).wp prog Q a1 W
  obtain⟨ad,x,xA,xn,xc,rfl,hab,hx,hop,hss⟩:=hs.hops.at_ hj1
  have hrow':=hrow
  unfold rowB at hrow'
  simp only [Bool.and_eq_true] at hrow'
  have hxb:=(rowFrom_at hrow'.2 hx).2
  have hxn:=opB_n hxb
  obtain⟨m,hm⟩:∃ m:Nat,x.n=(m:Int)+1:=⟨(x.n-1).toNat,by omega⟩
  refine Ytaipgdhdfpemcaa.w2 ?_
  refine wp_blk (x:=part [1,1,1,1,1,1,0,1,0,0,1,0,0] (codeOf rshipFF)) (id:=1) kr ?_
  refine Ytaipgdhdfpemcaa.w2 ?_
  refine r11 hs hj1 hop _ a1 hf1 fun a2 hf2=>?_
  show (part [1,1,1,1,1,1,0,1,0,0,1,0,0,1] (codeOf rshipFF)).wp prog _ a2 _
  obtain⟨w2,hw2⟩:∃ w2,w2=W.alloc (.cells (oC x.n x.epoch x.kind x.site x.client x.seq x.name x.size xA xn xc) 45):=⟨_,rfl⟩
  rw [<-hw2]
  have hb12:Below W W w2:=by rw [hw2];exact (Below.refl _ _).alloc (Nat.le_refl _) _
  have hbx:Blk w2 W 45 (oC x.n x.epoch x.kind x.site x.client x.seq x.name x.size xA xn xc):=by rw [hw2];exact Blk.new _ _ _
  have h2:=hs.below hb12
  have hnb:¬ New Y wb W W.heap.size:=fun hx=>by have:=(hs.led.1 _ hx).2;omega
  have hol:=hs.led.rows.len
  obtain⟨pA,pn,pc,lA,ln,lc,st,hgb,hos⟩:=h2.led.open_
  have hpn:=hos.len
  have next:hasL os x.n x.epoch=true->∀ a3 W3,Fr 220 a3 [(0,g),(3,(w:Nat)),(4,(w.heap.size+1:Nat)),(6,b6),(7,.int .i64 (j:Nat)),(8,(W:Nat))]->Below w2 w2 W3->(part [1,1,1,1,1,1,0,1,0,0,1,1] (codeOf rshipFF)).wp prog Q a3 W3:=by
   intro hh a3 W3 hf3 hb3
   refine r10 (by omega) _ a3 ⟨hf3.1,hf3.2.1,hf3.2.2.1,hf3.2.2.2.1,hf3.2.2.2.2.1,hf3.2.2.2.2.2.1,hf3.2.2.2.2.2.2.1,trivial⟩ fun a4 hf4=>hQ a4 W3 ⟨⟨j+1,by omega,hf4,h2.below hb3,fun i y hy hi=>?_⟩,?_⟩
   ·rcases Nat.lt_or_ge i j with hij|hij
    ·exact hhad i y hy hij
    ·obtain rfl:i=j:=by omega
     rw [hx] at hy
     injection hy with hy
     subst hy
     exact hh
   ·have q1:at_ a.tmps 7=.int .i64 (j:Nat):=hf.2.2.2.2.2.2.1
    have q2:at_ a4.tmps 7=.int .i64 ((j+1:Nat):Nat):=hf4.2.2.2.2.2.2.1
    unfold muRo
    rw [q1,q2]
    exact Y114
  have found:hasL os x.n x.epoch=false->∀ a3 W3,Fr 220 a3 [(0,g),(3,(w:Nat)),(4,(w.heap.size+1:Nat)),(6,b6),(7,.int .i64 (j:Nat)),(8,(W:Nat))]->Below w2 w2 W3->(part [1,1,1,1,1,1,0,1,0,0,1,0,0,1,1] (codeOf rshipFF)).wp prog (Exit.inBlock 1 (Exit.then ((part [1,1,1,1,1,1,0,1,0,0,1,1] (codeOf rshipFF)).wp prog Q) Q)) a3 W3:=by
   intro hh a3 W3 hf3 hb3
   have hstop:=hadN_stop os hhad hx hh
   have hx':ops[hadN os ops]? = some x:=by rw [hstop];exact hx
   obtain⟨f1,f2,f3,f4,f5⟩:=ship_at hrow hhas hx'
   have hrows:=ship_rows hs.led.rows hrow hhas hx'
   have hto:shipTo os ops=if ¬ x.kind=3/\¬ siteL os (x.n-2)=x.site then os else os.take (x.n-1).toNat++ops.drop (hadN os ops):=by unfold shipTo;rw [hx']
   have hmt:(x.n-1).toNat=m:=by omega
   rw [hmt,hstop] at hto hrows
   have h3:=h2.below hb3
   have hb83:=hbx.below hb3 hbx.lt
   have hs3:=hb3.size
   have hs2:=hb12.size
   have fin:shipTo os ops=os.take m++ops.drop j->∀ a4 W4,Fr 220 a4 [(0,g),(3,(w:Nat)),(4,(w.heap.size+1:Nat)),(6,b6),(7,.int .i64 (j:Nat)),(8,(W:Nat))]->Below W3 W3 W4->(part [1,1,1,1,1,1,0,1,0,0,1,0,0,1,1,1] (codeOf rshipFF)).wp prog (Exit.inBlock 1 (Exit.then ((part [1,1,1,1,1,1,0,1,0,0,1,1] (codeOf rshipFF)).wp prog Q) Q)) a4 W4:=by
    intro hto' a4 W4 hf4 hb4
    have hbx4:=hb83.below hb4 hb83.lt
    have h4:=h3.below hb4
    have hb14:=hb12.trans ((hb3.trans (hb4.mono hs3)).mono hs2)
    refine rs_put h4 hbx4 (hs.led.below hb14) (fun b hb=>hb.imp id fun hb=>⟨hb.1,by have:=hb14.size;omega⟩) hnb hm (by omega) hj1 hqn hk hrows _ a4 hf4 fun a5 W5 hf5 h5=>?_
    rw [<-hto'] at h5
    exact hexit a5 W5 hf5 h5
   refine Ytaipgdhdfpemcaa.w2 ?_
   obtain⟨pA3,pn3,pc3,lA3,ln3,lc3,st3,hgb3,hos3⟩:=h3.led.open_
   have hpn3:=hos3.len
   by_cases hk3:x.kind=3
   ·have hto':shipTo os ops=os.take m++ops.drop j:=by rw [hto,if_neg fun hh=>hh.1 hk3]
    exact r13_reign hb83 (by simp [hk3]) _ a3 hf3 fun a4 W4 hf4 hb4=>fin hto' a4 W4 hf4 hb4
   ·have hkb:(x.kind != 3)=true:=by simp [hk3]
    have hm1:=f4 hk3
    obtain⟨i,hi⟩:∃ i:Nat,x.n=(i:Int)+2:=⟨(x.n-2).toNat,by omega⟩
    obtain⟨ad2,y,yA,yn,yc,rfl,hab2,hck2,hop2,hss2⟩:=hos3.at_ (k:=i) (by omega)
    have hsite:siteL os (x.n-2)=y.site:=by
     unfold siteL
     have e:(x.n-2).toNat=i:=by omega
     rw [e,hck2]
    by_cases hsi:y.site=x.site
    ·have hto':shipTo os ops=os.take m++ops.drop j:=by rw [hto,if_neg fun hh=>hh.2 (hsite.trans hsi)]
     exact r13_ok hb83 hgb3 rfl hop2 (by omega) (by omega) hi hkb (by simp [hsi]) _ a3 hf3 fun a4 W4 hf4 hb4=>fin hto' a4 W4 hf4 hb4
    ·have hto':shipTo os ops=os:=by rw [hto,if_pos ⟨hk3,fun e=>hsi (hsite.symm.trans e)⟩]
     exact r13_gap (h3.more (Nat.le_add_right k 80)) hb83 hgb3 rfl hop2 (by omega) (by omega) hi hkb (by simp [hsi]) _ a3 hf3 fun a4 W4 hh=>hret hto' a4 W4 hh
  refine Ytaipgdhdfpemcaa.w2 ?_
  rcases Nat.lt_or_ge m pn with hmp|hmp
  ·obtain⟨ad2,y,yA,yn,yc,rfl,hab2,hck2,hop2,hss2⟩:=hos.at_ hmp
   have hha:=hasL_at (e:=x.epoch) hm hck2
   by_cases he:y.epoch=x.epoch
   ·exact r12_had hgb hbx rfl hop2 hmp (by omega) hm (beq_iff_eq.2 he) _ a2 hf2 fun a3 W3 hf3 hb3=>next (by rw [hha];exact decide_eq_true he) a3 W3 hf3 hb3
   ·exact r12_not hgb hbx rfl hop2 hmp (by omega) hm (beq_eq_false_iff_ne.2 he) _ a2 hf2 fun a3 W3 hf3 hb3=>found (by rw [hha];exact decide_eq_false he) a3 W3 hf3 hb3
  ·exact r12_high hgb hbx rfl (by omega) _ a2 hf2 fun a3 W3 hf3 hb3=>found (hasL_high (by omega) (by omega)) a3 W3 hf3 hb3
 ·refine r9_no hs hj1 _ a hf fun a2 hf2=>?_
  have e:hadN os ops=j:=by
   exact Y189
  have hnone:ops[hadN os ops]? = none:=List.getElem?_eq_none (by omega)
  have hto:shipTo os ops=os:=by unfold shipTo;rw [hnone]
  refine hexit a2 W hf2 ?_
  rw [hto]
  exact hs.more (Nat.le_add_right k 80)
theorem rs_outer (h:RShipAt w wb W B g b6 Y S k os epoch0 (cmdC kind epoch site o hA hn hc after since qA qn qc tag) qA qn qc ops N E) (hrow:rowB N0 E0 ops=true) (hhas:hasL os N0 E0=true) (hk:k<=900000) (hqn:qn<=1000) (a:Act) (hfr:Fr 220 a [(0,g),(3,(w:Nat)),(4,(w.heap.size+1:Nat)),(6,b6)]) (hK:∀ a' W',Fr 220 a' [(0,g),(3,(w:Nat)),(4,(w.heap.size+1:Nat)),(6,b6)]->RShipAt w wb W' B g b6 Y S (k+80) (shipTo os ops) epoch0 (cmdC kind epoch site o hA hn hc after since qA qn qc tag) qA qn qc ops N E->K a' W') :
 (part [1,1,1,1,1,1,0] (codeOf rshipFF)).wp prog (Exit.then K (bodyPost prog rshipFF (fun e w'=>(∃ u n ep,e=.returned (doneV u n ep))/\RActed B g Y (k+80) (shipTo os ops) epoch0 w w'))) a W:=by
 refine Ytaipgdhdfpemcaa.w2 ?_
 refine r8 _ a hfr fun a1 hf1=>?_
 show (part [1,1,1,1,1,1,0,1] (codeOf rshipFF)).wp prog (Exit.then K _) a1 W
 refine wp_blk (x:=part [1,1,1,1,1,1,0,1,0] (codeOf rshipFF)) (id:=0) kr ?_
 have el:part [1,1,1,1,1,1,0,1,0] (codeOf rshipFF)=Code.loop (part [1,1,1,1,1,1,0,1,0,0] (codeOf rshipFF)):=by kernel_rfl
 rw [el]
 refine wp_loop (RoI w wb B g b6 Y S k os epoch0 (cmdC kind epoch site o hA hn hc after since qA qn qc tag) qA qn qc ops N E) (fun a _=>muRo qn a) ⟨0,Nat.zero_le _,hf1,h,fun i y _ hi=>by omega⟩ fun a2 w2 hI=>?_
 refine rs_round hrow hhas hk hqn _ (fun a' W' h1 h2=>hK a' W' h1 h2) (fun hto a' W' hh=>?_) a2 w2 hI fun a' w' hh=>hh
 rw [hto]
 exact hh
end
end
theorem ract_end {w W W':World} {B g q0:Nat} {Y:Nat->Prop} {k:Nat} {os:List OpC} {f:Int} (hY:∀ b,Y b->B<=b/\b<w) (hB:B<=w) (hl:RLedIs W B g Y k os f) (hk1:Kept (fun b=>¬ Y b) w W) (hl1:Below B w W) (hb:w.heap.size<=q0) (hk:Kept (fun q=>q≠q0) W W') (hlw:Below q0 W W'):RActed B g Y k os f w W':=by
 have s1:=hk1.1
 have s2:=hk.1
 refine⟨(hl.kept (hk.mono fun b _ hb' e=>?_)).mono (fun b _ hx=>.inl hx) (New.lt hY hB (by omega)),⟨by omega,fun b hb' hlt=>(hk.2 b (by omega) (by omega)).trans (hk1.2 b hb' hlt)⟩,hl1.trans (hlw.mono (by omega))⟩
 have:=(hY b hb').2
 omega
section
variable {w W:World} {B g:Nat} {Y S:Nat->Prop} {k:Nat} {os:List OpC} (kind epoch site:Int) (o:OpC) (hA:O) (hn hc:Nat) (after since:Int) (qA:O) (qn qc:Nat) (tag:Int) (ops:List OpC)
section
variable {ad:Addr} {cs:Array Value} {fence st:Int} {i lc ln pc pn yc yn:Nat} {lA pA yA:O} {y:OpC} {v4:Value}
section
variable (h5:Blk W w 47 (cmdC kind epoch site o hA hn hc after since qA qn qc tag))
include h5
theorem rs4 (hg:Blk W g 62 (rledC pA pn pc lA ln lc fence st)) (Q:Z) (a:Act) (hfr:Fr 220 a [(0,g),(3,(w:Nat)),(4,v4)]) (hQ:∀ a',Fr 220 a' [(0,g),(3,(w:Nat)),(4,v4)]->Q .normal a' (W.setCell ⟨g,2,none⟩ (.int .i64 epoch))):(part [1,1,1,0] (codeOf rshipFF)).wp prog Q a W:=by
 have k1:=h5.c1 1
 have g2:=hg.c1 2
 have f2:=hg.frozen 2
 have HQ:=J hQ
 clear hQ h5 hg
 exact Y13
theorem rs7 (Q:Z) (a:Act) (hfr:Fr 220 a [(0,g),(3,(w:Nat)),(4,(w.heap.size+1:Nat))]) (hQ:∀ a',Fr 220 a' [(0,g),(3,(w:Nat)),(4,(w.heap.size+1:Nat)),(6,(W:Nat))]->Q .normal a' (W.alloc (.cells #[after,since] 26))):(part [1,1,1,1,1,0] (codeOf rshipFF)).wp prog Q a W:=by
 obtain⟨k12,k13⟩:=h5.cs 12 2
 have HQ:=J hQ
 clear hQ h5
 exact Y13
end
section
variable (hY:∀ b,Y b->B<=b/\b<w) (hB:B<=w) (hl:RLedIs W B g Y k os epoch) (hk1:Kept (fun b=>¬ Y b) w W) (hl1:Below B w W) (hz:w.heap.size+2<=W) (h5:Blk W w 47 (cmdC kind epoch site o hA hn hc after since qA qn qc tag)) (h8:Blk W (w.heap.size+1) 50 #[.int .i64 0,.int .i64 0,.int .i64 0])
include hY hB hl hk1 hl1 hz h5 h8
section
variable (hg:Blk W g 62 cs) (hg0:cs[0]? = some (.slice pA pn pc))
include hg hg0
theorem rs5_high (hx:(pn:Int)<after) (a:Act) (hfr:Fr 220 a [(0,g),(3,(w:Nat)),(4,(w.heap.size+1:Nat))]) (Q:Z) (hQ:∀ a W,bodyPost prog rshipFF (fun x w'=>(∃ e n ep,x=.returned (doneV e n ep))/\RActed B g Y (k+80) os epoch w w') .ret a W->Q .ret a W) :
 (part [1,1,1,1,0] (codeOf rshipFF)).wp prog Q a W:=by
 obtain⟨H8,HL,HK1,HL1,HY,HB,HZ,HQ⟩:=J8 h8 hl hk1 hl1 hY hB hz hQ
 have k12:=h5.cell 12
 have k13:=h5.cell 13
 have g0:=hg.cell 0
 rw [hg0] at g0
 simp at k12 k13
 have d1:decide ((pn:Int)<after)=true:=decide_eq_true hx
 clear hx
 exact Y42
theorem rs5_zero (hx:after=0) (a:Act) (hfr:Fr 220 a [(0,g),(3,(w:Nat)),(4,(w.heap.size+1:Nat))]) (Q:Z) (hQ:∀ a' W',Fr 220 a' [(0,g),(3,(w:Nat)),(4,(w.heap.size+1:Nat))]->Below W W W'->Q .normal a' W') :
 (part [1,1,1,1,0] (codeOf rshipFF)).wp prog Q a W:=by
 obtain⟨H8,HL,HK1,HL1,HY,HB,HZ,HQ⟩:=J8 h8 hl hk1 hl1 hY hB hz hQ
 have k12:=h5.cell 12
 have k13:=h5.cell 13
 have g0:=hg.cell 0
 rw [hg0] at g0
 simp at k12 k13
 have d1:decide ((pn:Int)<after)=false:=decide_eq_false (by omega)
 have d2:decide ((0:Int)<after)=false:=decide_eq_false (by omega)
 clear hx
 clear hQ hY hB hl hk1 hl1 hz h5 h8 hg hg0
 exact Y28
section
variable (hA':pA=some ad) (hop:OpAt W (ad.add (i*9)) (y.at_ yA yn yc)) (hi:i<pn) (hi2:i<=1000) (hni:after=(i:Int)+1)
include hA' hop hi hi2 hni
theorem rs5_ne (he:(y.epoch != since)=true) (a:Act) (hfr:Fr 220 a [(0,g),(3,(w:Nat)),(4,(w.heap.size+1:Nat))]) (Q:Z) (hQ:∀ a W,bodyPost prog rshipFF (fun x w'=>(∃ e n ep,x=.returned (doneV e n ep))/\RActed B g Y (k+80) os epoch w w') .ret a W->Q .ret a W) :
 (part [1,1,1,1,0] (codeOf rshipFF)).wp prog Q a W:=by
 obtain⟨H8,HL,HK1,HL1,HY,HB,HZ,HQ⟩:=J8 h8 hl hk1 hl1 hY hB hz hQ
 have k12:=h5.cell 12
 have k13:=h5.cell 13
 have g0:=hg.cell 0
 rw [hg0] at g0
 simp at k12 k13
 subst hA'
 have d1:decide ((pn:Int)<after)=false:=decide_eq_false (by omega)
 have d2:decide ((0:Int)<after)=true:=decide_eq_true (by omega)
 obtain⟨c0,c1,c2,c3,c4,c5,c6,c7,c8⟩:=hop
 simp only [OpC.at_] at c1
 have z1:IntKind.i64.wrap (after-1)=(i:Nat):=by rw [IntKind.wrap_i64];omega
 have z2:(0:Int)<=(i:Nat):=by omega
 have z3:((i:Nat):Int)<((pn:Nat):Int):=by omega
 clear c0 c2 c3 c4 c5 c6 c7 c8 hi hi2 hni
 exact Y42
theorem rs5_eq (he:(y.epoch != since)=false) (a:Act) (hfr:Fr 220 a [(0,g),(3,(w:Nat)),(4,(w.heap.size+1:Nat))]) (Q:Z) (hQ:∀ a' W',Fr 220 a' [(0,g),(3,(w:Nat)),(4,(w.heap.size+1:Nat))]->Below W W W'->Q .normal a' W') :
 (part [1,1,1,1,0] (codeOf rshipFF)).wp prog Q a W:=by
 obtain⟨H8,HL,HK1,HL1,HY,HB,HZ,HQ⟩:=J8 h8 hl hk1 hl1 hY hB hz hQ
 have k12:=h5.cell 12
 have k13:=h5.cell 13
 have g0:=hg.cell 0
 rw [hg0] at g0
 simp at k12 k13
 subst hA'
 have d1:decide ((pn:Int)<after)=false:=decide_eq_false (by omega)
 have d2:decide ((0:Int)<after)=true:=decide_eq_true (by omega)
 obtain⟨c0,c1,c2,c3,c4,c5,c6,c7,c8⟩:=hop
 simp only [OpC.at_] at c1
 have z1:IntKind.i64.wrap (after-1)=(i:Nat):=by rw [IntKind.wrap_i64];omega
 have z2:(0:Int)<=(i:Nat):=by omega
 have z3:((i:Nat):Int)<((pn:Nat):Int):=by omega
 clear c0 c2 c3 c4 c5 c6 c7 c8 hi hi2 hni
 clear hQ hY hB hl hk1 hl1 hz h5 h8 hg hg0
 exact Y28
end
end
section
variable (hops:OpsIs W S qA qn qc ops) (hS:∀ b,S b->¬ Y b/\b<w) (hrow:rowB after since ops=true)
include hops hS hrow
theorem rs_c (hhas:hasL os after since=true) (hk:k<=900000) (hqn:qn<=1000) (a:Act) (hfr:Fr 220 a [(0,g),(3,(w:Nat)),(4,(w.heap.size+1:Nat))]) :
 (part [1,1,1,1,1] (codeOf rshipFF)).wp prog (bodyPost prog rshipFF (fun x w'=>(∃ e n ep,x=.returned (doneV e n ep))/\RActed B g Y (k+80) (shipTo os ops) epoch w w')) a W:=by
 refine Ytaipgdhdfpemcaa.w2 ?_
 refine rs7 kind epoch site o hA hn hc after since qA qn qc tag h5 _ a hfr fun a1 hf1=>?_
 show (part [1,1,1,1,1,1] (codeOf rshipFF)).wp prog _ a1 _
 obtain⟨w2,hw2⟩:∃ w2,w2=W.alloc (.cells #[after,since] 26):=⟨_,rfl⟩
 rw [<-hw2]
 have hb:Below W W w2:=by rw [hw2];exact (Below.refl _ _).alloc (Nat.le_refl _) _
 have hsz:w2.heap.size=W.heap.size+1:=by rw [hw2];simp
 have hsp:Blk w2 W 26 #[after,since]:=by rw [hw2];exact Blk.new _ _ _
 have h:RShipAt w w2 w2 B g W.heap.size Y S k os epoch (cmdC kind epoch site o hA hn hc after since qA qn qc tag) qA qn qc ops after since:=by
  refine⟨hY,hB,by omega,⟨by omega,by omega⟩,Nat.le_refl _,(hl.below hb).mono (fun b _ hb=>.inl hb) (New.lt (fun b hb=>⟨(hY b hb).1,by have:=(hY b hb).2;omega⟩) (by omega) (Nat.le_refl _)),hk1.below hb,hl1.trans (hb.mono (by omega)),h8.below hb h8.lt,h5.below hb h5.lt,hsp,hops.below hb,hS⟩
 refine w2p fun K hK=>?_
 refine rs_outer h hrow hhas hk hqn a1 hf1 fun a2 w3 hf2 h2=>hK a2 w3 ?_
 refine Ytaipgdhdfpemcaa.w2 ?_
 refine r23 h2 hqn _ a2 hf2 fun a3 w4 N' E' hf3 h3=>?_
 exact rs_tail h3 a3 ⟨hf3.1,hf3.2.1,hf3.2.2.1,hf3.2.2.2.2.1,hf3.2.2.2.2.2.1,trivial⟩
theorem rs_b (hk:k<=900000) (hqn:qn<=1000) (a:Act) (hfr:Fr 220 a [(0,g),(3,(w:Nat)),(4,(w.heap.size+1:Nat))]) :
 (part [1,1,1,1] (codeOf rshipFF)).wp prog (bodyPost prog rshipFF (fun x w'=>(∃ e n ep,x=.returned (doneV e n ep))/\RActed B g Y (k+80) (if hasL os after since=true then shipTo os ops else os) epoch w w')) a W:=by
 obtain⟨pA,pn,pc,lA,ln,lc,st,hgb,hos⟩:=hl.open_
 have hpn:=hos.len
 have hol:=hl.rows.len
 have hN:0<=after:=by
  exact Y209
 refine w2p fun K hK=>?_
 have go:hasL os after since=true->∀ a' W',Fr 220 a' [(0,g),(3,(w:Nat)),(4,(w.heap.size+1:Nat))]->Below W W W'->K a' W':=by
  intro hh a' W' hf' hb'
  refine hK a' W' ?_
  rw [if_pos hh]
  have hs:=hb'.size
  exact rs_c kind epoch site o hA hn hc after since qA qn qc tag ops hY hB (hl.below hb') (hk1.below hb') (hl1.trans (hb'.mono (by omega))) (by omega) (h5.below hb' h5.lt) (h8.below hb' h8.lt) (hops.below hb') hS hrow hh hk hqn a' hf'
 rcases Int.lt_or_le (pn:Int) after with hx|hx
 ·have hh:=hasL_high (os:=os) (e:=since) (show (1:Int)<=after by omega) (by omega)
  rw [if_neg (by rw [hh];exact Bool.false_ne_true)]
  exact rs5_high kind epoch site o hA hn hc after since qA qn qc tag hY hB hl hk1 hl1 hz h5 h8 hgb rfl hx a hfr _ fun a W hh=>hh
 by_cases h0:after=0
 ·have hh:hasL os after since=true:=by unfold hasL;rw [decide_eq_true h0];rfl
  exact rs5_zero kind epoch site o hA hn hc after since qA qn qc tag hY hB hl hk1 hl1 hz h5 h8 hgb rfl h0 a hfr _ (go hh)
 obtain⟨i,hi⟩:∃ i:Nat,after=(i:Int)+1:=⟨(after-1).toNat,by omega⟩
 obtain⟨ad,y,yA,yn,yc,rfl,hab,hck,hop,hss⟩:=hos.at_ (k:=i) (by omega)
 have hha:=hasL_at (e:=since) hi hck
 by_cases he:y.epoch=since
 ·exact rs5_eq kind epoch site o hA hn hc after since qA qn qc tag hY hB hl hk1 hl1 hz h5 h8 hgb rfl rfl hop (by omega) (by omega) hi (by simp [he]) a hfr _ (go (by rw [hha];exact decide_eq_true he))
 ·rw [if_neg (by rw [hha,decide_eq_false he];exact Bool.false_ne_true)]
  exact rs5_ne kind epoch site o hA hn hc after since qA qn qc tag hY hB hl hk1 hl1 hz h5 h8 hgb rfl rfl hop (by omega) (by omega) hi (by simp [he]) a hfr _ fun a W hh=>hh
end
end
end
end
theorem rship_any {w:World} {B g:Nat} {Y:Nat->Prop} {k:Nat} {os:List OpC} {fence:Int} (kind epoch site:Int) (o:OpC) (hA:O) (hn hc:Nat) (after since:Int) (qA:O) (qn qc:Nat) (tag:Int) {S:Nat->Prop} {R:List OpC×Int} (ops:List OpC) (hR:R=(if shipsB os fence ⟨kind,epoch,site,o,after,since,ops,tag⟩=true then (shipOs os ⟨kind,epoch,site,o,after,since,ops,tag⟩,epoch) else (os,fence))) (h:RLedIs w B g Y k os fence) (hB:B<=w) (hops:OpsIs w S qA qn qc ops) (hS:∀ b,S b->¬ Y b) (hrow:rowB after since ops=true) (hk:k<=900000) (hqn:qn<=1000) :
 Calls prog 49 #[.pointer (some ⟨g,0,none⟩),.agg (cmdC kind epoch site o hA hn hc after since qA qn qc tag)] w fun x w'=>(∃ e n ep,x=.returned (doneV e n ep))/\RActed B g Y (k+80) R.1 R.2 w w':=by
 have h0:=h
 obtain⟨pA,pn,pc,lA,ln,lc,st,hgb,hos⟩:=h.open_
 have hpn:=hos.len
 have hgl:=hgb.lt
 have hr80:=h.rows.len
 obtain⟨w1,hw1,hz1,hb1,h5,h8⟩:=two_boxes w (cmdC kind epoch site o hA hn hc after since qA qn qc tag)
 have hg1:=hgb.below hb1 hgl
 have ho1:=hos.below hb1
 obtain⟨HW,H8,HB1,HZ1,H0,HB,HG,H5,HOS⟩:=J9 hw1 h8 hb1 hz1 h0 hB hg1 h5 ho1
 have HPN:=J hpn
 have HHOLD:=J (rholder_any w1 hg1 ho1 (by omega))
 have rest:∀ w2 nq (a:Act),Below w1 w1 w2->R=(if hasL os after since=true then shipTo os ops else os,epoch)->Fr 220 a [(0,g),(3,(w:Nat)),(4,(w.heap.size+1:Nat))]->(part [1,1,1] (codeOf rshipFF)).wp prog (bodyPost prog rshipFF fun x w'=>(∃ e n ep,x=.returned (doneV e n ep))/\RActed B g Y (k+80) R.1 R.2 w w') a (w2.drewN nq):=by
  intro w2 nq a hb2' hRe hfr
  have hb2:Below w1 w1 (w2.drewN nq):=below_drewN hb2' nq
  have hbw:=hb1.trans (hb2.mono (by omega))
  have s2:=hb2.size
  have h52:=h5.below hb2 h5.lt
  have h82:=h8.below hb2 h8.lt
  have hl2:=h.below hbw
  have hBq:B<=(w2.drewN nq).heap.size:=by omega
  obtain⟨pA,pn,pc,lA,ln,lc,st,hgb,hos⟩:=hl2.open_
  have ha:=(hl2.set_ hBq).1 epoch
  have hYg:=h.bY
  refine Ytaipgdhdfpemcaa.w2 ?_
  refine rs4 kind epoch site o hA hn hc after since qA qn qc tag h52 hgb _ a hfr fun a2 hf2=>?_
  show (part [1,1,1,1] (codeOf rshipFF)).wp prog _ a2 _
  obtain⟨w3,hw3⟩:∃ w3,w3=(w2.drewN nq).setCell ⟨g,2,none⟩ (.int .i64 epoch):=⟨_,rfl⟩
  rw [<-hw3] at ha ⊢
  have hsz:w3.heap.size=(w2.drewN nq).heap.size:=by rw [hw3];simp
  have hk3:Kept (fun b=>b≠g) (w2.drewN nq) w3:=by rw [hw3];exact (Kept.refl _ _).set_ ⟨g,2,none⟩ (.inl fun h=>h rfl) _
  have hNY:∀ b,b<w3.heap.size->New Y (w2.drewN nq) w3 b->Y b:=fun b _ hb=>hb.elim id fun hb=>by omega
  have hgl2:=hgb.lt
  have hYb:∀ b,Y b->b<w:=fun b hb=>(h.1 b hb).2
  have hgw:=hYb g hYg
  rw [hRe]
  refine rs_b (S:=fun b=>S b/\b<w) kind epoch site o hA hn hc after since qA qn qc tag ops h.1 hB (ha.1.mono hNY fun b hb=>⟨(h.1 b hb).1,by have:=hYb b hb;omega⟩) ?_ ?_ (by omega) ((hk3.2 _ (show w.heap.size≠g by omega) (by omega)).trans h52) ((hk3.2 _ (show w.heap.size+1≠g by omega) (by omega)).trans h82) ?_ (fun b hb=>⟨hS b hb.1,hb.2⟩) hrow hk hqn a2 hf2
  ·exact⟨by omega,fun b hb hlt=>(hk3.2 b (fun e=>hb (e▸hYg)) (by omega)).trans (hbw.block b hlt)⟩
  ·exact (hbw.mono hB).trans ha.2.2
  ·exact ((hops.mono (S':=fun b=>S b/\b<w) fun b hb hx=>⟨hx,hb⟩).below hbw).kept (hk3.mono fun b _ hx e=>hS b hx.1 (e▸hYg))
 have HT:=J rest
 have hRt:∀ b,shipsB os fence ⟨kind,epoch,site,o,after,since,ops,tag⟩=b->R=if b=true then (if hasL os after since=true then shipTo os ops else os,epoch) else (os,fence):=fun b hb=>by rw [hR,hb];rfl
 obtain⟨hE,hS',hhold⟩:∃ hE hS,holderC os=(hE,hS):=⟨_,_,rfl⟩
 have hsb:shipsB os fence ⟨kind,epoch,site,o,after,since,ops,tag⟩ = !(decide (epoch<fence)||(decide (epoch=hE)&&!decide (site=hS'))):=by unfold shipsB;rw [hhold]
 rw [hhold] at HHOLD
 obtain⟨HRT,HSB⟩:=J2 hRt hsb
 clear h0 h hgb hos hpn hr80 hw1 hz1 hb1 h5 h8 hg1 ho1 hB rest hhold hR hops hS hrow hqn hsb hRt
 by_cases q1:epoch<fence
 ·have d1:decide (epoch<fence)=true:=decide_eq_true q1
  have hb:=HSB.out
  rw [d1] at hb
  have hRf:=HRT.out _ hb
  rw [if_neg (by simp)] at hRf
  have HRF:=J hRf
  clear hRf hb q1 HRT HSB
  exact Y16
 have d1:decide (epoch<fence)=false:=decide_eq_false q1
 by_cases q2:epoch=hE
 ·have d2:(epoch==hE)=true:=beq_iff_eq.2 q2
  by_cases q3:site=hS'
  ·have d3:(site != hS')=false:=by simp [q3]
   have hb:=HSB.out
   rw [d1,decide_eq_true q2,decide_eq_true q3] at hb
   have hRf:=HRT.out _ hb
   rw [if_pos (by simp)] at hRf
   have HRF:=J hRf
   clear hRf hb q1 q2 q3 HRT HSB
   exact Y212
  ·have d3:(site != hS')=true:=by simp [q3]
   have hb:=HSB.out
   rw [d1,decide_eq_true q2,decide_eq_false q3] at hb
   have hRf:=HRT.out _ hb
   rw [if_neg (by simp)] at hRf
   have HRF:=J hRf
   clear hRf hb q1 q2 q3 HRT HSB
   exact Y16
 ·have d2:(epoch==hE)=false:=beq_eq_false_iff_ne.2 q2
  have hb:=HSB.out
  rw [d1,decide_eq_false q2] at hb
  have hRf:=HRT.out _ hb
  rw [if_pos (by simp)] at hRf
  have HRF:=J hRf
  clear hRf hb q1 q2 HRT HSB
  exact Y212
end Go.Proofs.Ytaipgdhdfpemcaa
