/- THE WALKS OF LaneEnds, part 3. -/
import Derived.Test.YtaipgdhdfpemcaaH1
import Derived.Test.YtaipgdhdfpemcaaH2
namespace Go.Proofs.Ytaipgdhdfpemcaa
set_option linter.all false
open Go.RowKit Go.Proofs.Try
set_option maxRecDepth 100000
set_option maxHeartbeats 4000000
def BoxS (w:World) (R:World->Prop):List Value->World->Prop
 | [],W=>W=w
 | [u],W=>u=.pointer (some ⟨w.heap.size,0,none⟩)/\W=w.alloc (.cells noCmd 47)
 | [u,_],W=>u=.pointer (some ⟨w.heap.size,0,none⟩)/\R W
 | _,_=>False
theorem BoxS.low {w W:World} {R:World->Prop} {vs:List Value} (h:BoxS w R vs W) (hl:vs.length<=1):Below w w W:=by
 rcases vs with _|⟨u,_|⟨v,l⟩⟩
 ·obtain rfl:=h
  exact Below.refl _ _
 ·obtain⟨_,rfl⟩:=h
  exact (Below.refl _ _).alloc (Nat.le_refl _) _
 ·simp at hl
theorem ship_place (a:Int) (n:Nat) (hn:n<=4096):∃ K:Nat,K<=n/\IntKind.i64.wrap ((IntKind.u64.wrap a).tmod ((n:Int)+1))=(K:Int)/\IntKind.u64.wrap ((IntKind.u64.wrap a).tmod ((n:Int)+1))=(IntKind.u64.wrap a).tmod ((n:Int)+1):=by
 obtain⟨z,hz⟩:∃ z,z=IntKind.u64.wrap a:=⟨_,rfl⟩
 have h0:0<=z:=by rw [hz,IntKind.wrap_u64];omega
 rw [<-hz,Int.tmod_eq_emod_of_nonneg h0]
 have h1:=Int.emod_nonneg z (b:=(n:Int)+1) (by omega)
 have h2:=Int.emod_lt_of_pos z (b:=(n:Int)+1) (by omega)
 refine⟨(z % ((n:Int)+1)).toNat,by omega,?_,IntWalk.u64_in _ (by omega)⟩
 rw [show IntKind.i64.wrap (z % ((n:Int)+1))=z % ((n:Int)+1) from IntWalk.i64_in _ (by omega)]
 omega
theorem sh4 {w:World} {tb s n c K b:Nat} {hE hS x:Int} {A:Option Addr} {v3:Value} (Q:Exit->Act->World->Prop) (a:Act) (hfr:Fr 106 a [(0,.pointer (some ⟨tb,0,none⟩)),(1,.int .i64 (s:Nat)),(2,.int .i64 x),(3,v3),(9,.pointer (some ⟨b,0,none⟩)),(10,.slice A n c)]) (hb:Blk w b 93 #[.int .i64 hE,.int .i64 hS]) (hn:n<=4096)
 (hK:IntKind.i64.wrap ((IntKind.u64.wrap x).tmod ((n:Int)+1))=(K:Int)) (hK':IntKind.u64.wrap ((IntKind.u64.wrap x).tmod ((n:Int)+1))=(IntKind.u64.wrap x).tmod ((n:Int)+1))
 (hQ:∀ a' q W,Fr 106 a' [(0,.pointer (some ⟨tb,0,none⟩)),(1,.int .i64 (s:Nat)),(3,v3),(10,.slice A n c),(11,.pointer (some ⟨q,0,none⟩))]->Blk W q 47 (cmd0 3 hE (s:Nat) (K:Nat) 0 none 0 0)->w.heap.size<=q->Below w w W->Q .normal a' W) :
 (part [1,1,1,0] (codeOf shipF)).wp prog Q a w:=by
 have hb':Blk w.drew b 93 #[.int .i64 hE,.int .i64 hS]:=hb
 have HQ:=Lib.hid (show ∀ a' q W,Fr 106 a' [(0,.pointer (some ⟨tb,0,none⟩)),(1,.int .i64 (s:Nat)),(3,v3),(10,.slice A n c),(11,.pointer (some ⟨q,0,none⟩))]->Blk W q 47 (cmd0 3 hE (s:Nat) (K:Nat) 0 none 0 0)->w.drew.heap.size<=q->Below w.drew.heap.size w.drew W->Q .normal a' W from fun a' q W hf h1 h2 h3=>hQ a' q W hf h1 h2 ⟨h3.os,h3.tape,h3.output,h3.size,h3.block⟩)
 clear hb hQ
 obtain⟨w0,hw0⟩:∃ w0,w0=w.drew:=⟨_,rfl⟩
 rw [<-hw0] at hb' HQ
 have HB:=Lib.hid hb'
 have z3:IntKind.u64.wrap ((n:Int)+1)=(n:Int)+1:=IntWalk.u64_in _ (by omega)
 have z4:IntKind.i64.wrap ((n:Int)+1)=(n:Int)+1:=IntWalk.i64_in _ (by omega)
 have z5:¬ (n:Int)+1=0:=by omega
 have hbk:Blk ((w0.alloc (.cells noCmd 47)).setCells w0.heap.size 0 (cmd0 3 hE (s:Nat) (K:Nat) 0 none 0 0).toList) w0.heap.size 47 (cmd0 3 hE (s:Nat) (K:Nat) 0 none 0 0):=(Blk.new w0 47 noCmd).setCells_ (cmd0 3 hE (s:Nat) (K:Nat) 0 none 0 0).toList rfl
 have hlo:Below w0 w0 ((w0.alloc (.cells noCmd 47)).setCells w0.heap.size 0 (cmd0 3 hE (s:Nat) (K:Nat) 0 none 0 0).toList):=below_setCells (Nat.le_refl _) ((Below.refl _ _).alloc (Nat.le_refl _) _) _ _
 have HBK:=Lib.hid hbk
 have HLO:=Lib.hid hlo
 have HT:=Lib.hid ((Blk.new w0 47 noCmd).there_ 0 16 (by show 0+16<=16;omega))
 clear hb' hbk hlo
 refine gg hfr fun t=>?_
 obtain⟨w1,hw1⟩:∃ w1,w1=w:=⟨_,rfl⟩
 rw [<-hw1]
 rw [<-hw1] at hw0
 clear hw1
 have HW0:=Lib.hid hw0
 clear hw0
 refine wp_region_chain kr [12,13] (fun i=>match i with|0=>.pointer (some ⟨b,0,none⟩)|1=>.int .i64 hE|2=>.int .i64 (s:Nat)|3=>.int .i64 x|4=>.int .u64 (IntKind.u64.wrap x)|5=>.slice A n c|6=>.int .i64 (n:Nat)|7=>.int .i64 ((n:Int)+1)|8=>.int .u64 ((n:Int)+1)|9=>.int .u64 ((IntKind.u64.wrap x).tmod ((n:Int)+1))|10=>.int .i64 (K:Nat)|11=>.agg (cmd0 3 hE (s:Nat) (K:Nat) 0 none 0 0)|_=>undef) (BoxS w0 (fun W=>Blk W w0 47 (cmd0 3 hE (s:Nat) (K:Nat) 0 none 0 0)/\Below w0 w0 W)) (fun s i=>s==13&&decide (i<=13)) kr kr kr kr ?hS ?hfree ?hlink ?hend
 case hS=>exact HW0.out.symm
 case hfree=>
  intro i o F U vs W ho hni hS hlen hlim hat hoff hd
  have e1:F.eval (.tmp 1)=.int .i64 (s:Nat):=(hoff 1 kd).trans rfl
  have t1:=act_tmp e1
  have e2:F.eval (.tmp 2)=.int .i64 x:=(hoff 2 kd).trans rfl
  have t2:=act_tmp e2
  have e9:F.eval (.tmp 9)=.pointer (some ⟨b,0,none⟩):=(hoff 9 kd).trans rfl
  have t9:=act_tmp e9
  have e10:F.eval (.tmp 10)=.slice A n c:=(hoff 10 kd).trans rfl
  have t10:=act_tmp e10
  have qa:=Lib.hid hat
  have qb:=Lib.hid hd
  clear hat hoff hd
  match i with
  | 0|2|3|5=>
   exact EY22
  | 1=>
   cases ho
   have t47:=act_tmp (fev qa qb 0 47)
   have hsm:=hS.low (hlim 1 13 rfl rfl)
   have d0:=(HB.out.below hsm HB.out.lt).cell 0
   simp at d0
   exact vl ⟨rfl,rfl⟩
  | 4=>
   cases ho
   have t50:=act_tmp (fev qa qb 3 50)
   exact EY3
  | 6=>
   cases ho
   have t52:=act_tmp (fev qa qb 5 52)
   exact vl ⟨rfl,rfl⟩
  | 7=>
   cases ho
   have t53:=act_tmp (fev qa qb 6 53)
   exact EY3
  | 8=>
   cases ho
   have t54:=act_tmp (fev qa qb 7 54)
   exact EY3
  | 9=>
   cases ho
   have t51:=act_tmp (fev qa qb 4 51)
   have t55:=act_tmp (fev qa qb 8 55)
   exact EY3
  | 10=>
   cases ho
   have t56:=act_tmp (fev qa qb 9 56)
   exact EY3
  | 11=>
   cases ho
   have t48:=act_tmp (fev qa qb 1 48)
   have t49:=act_tmp (fev qa qb 2 49)
   have t57:=act_tmp (fev qa qb 10 57)
   exact vl ⟨rfl,rfl⟩
  | 12|13=>
   exact absurd (by decide) hni
  | i+14=>exact absurd ho (by simp)
 case hlink=>
  intro k i o F U vs W hk ho hS hvl hat hoff hd
  have e1:F.eval (.tmp 1)=.int .i64 (s:Nat):=(hoff 1 kd).trans rfl
  have t1:=act_tmp e1
  have e2:F.eval (.tmp 2)=.int .i64 x:=(hoff 2 kd).trans rfl
  have t2:=act_tmp e2
  have e9:F.eval (.tmp 9)=.pointer (some ⟨b,0,none⟩):=(hoff 9 kd).trans rfl
  have t9:=act_tmp e9
  have e10:F.eval (.tmp 10)=.slice A n c:=(hoff 10 kd).trans rfl
  have t10:=act_tmp e10
  have qa:=Lib.hid hat
  have qb:=Lib.hid hd
  clear hat hoff hd
  match k with
  | 0=>
   cases hk
   cases ho
   obtain rfl:=List.eq_nil_of_length_eq_zero hvl
   obtain rfl:=hS
   exact wp_value' (.pointer (some ⟨W.heap.size,0,none⟩)) (W.alloc (.cells noCmd 47)) (by unfold execOp;go_simp) ⟨_,rfl,rfl,rfl⟩
  | 1=>
   cases hk
   cases ho
   obtain⟨u0,rfl⟩:=ln1 hvl
   have e11:=cev qa qb 12 11
   have t11:=act_tmp e11
   have e58:=fev qa qb 11 58
   have t58:=act_tmp e58
   obtain⟨rfl,rfl⟩:=hS
   refine wp_store_mid 47 (.tmp 11) (.tmp 58) rfl w0.heap.size 0 (cmd0 3 hE (s:Nat) (K:Nat) 0 none 0 0) e11 e58 HT.out Try.sizeCmd cmd0_one ⟨_,rfl,rfl,HBK.out,HLO.out⟩
  | k+2=>exact absurd hk (by simp)
 case hend=>
  intro U vs W hS hvl hfr hch
  obtain⟨x0,x1,rfl⟩:=ln2 hvl
  obtain⟨hu,hk,hl⟩:=hS
  have hk0:U 12=.pointer (some ⟨w0.heap.size,0,none⟩):=by
   have h0:some x0=some (U 12):=hch 0 12 rfl
   exact (Option.some.inj h0).symm.trans hu
  clear hfr hch
  simp [putU,dstAt,Act.put]
  exact HQ.out _ _ _ ⟨rfl,rfl,rfl,rfl,rfl,rfl,hk0,trivial⟩ hk (Nat.le_refl _) hl
section
variable {w:World} {tb s n c K q:Nat} {hE y:Int} {A:Option Addr} {v3:Value} {os:List OpC} {S:Nat->Prop}
theorem ts5 (Q:Z) (a:Act) (hfr:Fr 106 a [(0,.pointer (some ⟨tb,0,none⟩)),(1,.int .i64 (s:Nat)),(3,v3),(10,.slice A n c),(11,.pointer (some ⟨q,0,none⟩))])
 (hq:Blk w q 47 (cmd0 3 hE (s:Nat) (K:Nat) 0 none 0 0)) (ho:OpsIs w S A n c os) (hK:K<=n) (hn:n<=4096)
 (hQ:∀ a' w',Fr 106 a' [(0,.pointer (some ⟨tb,0,none⟩)),(1,.int .i64 (s:Nat)),(3,v3),(10,.slice A n c),(11,.pointer (some ⟨q,0,none⟩))]->Blk w' q 47 (cmd0 3 hE (s:Nat) (K:Nat) (epAt os K) none 0 0)->Kept (fun b=>b≠q) w w'->Below q w w'->Q .normal a' w') :
 (part [1,1,1,1,0] (codeOf shipF)).wp prog Q a w:=by
 refine Wt ?_
 have r5:∀ (Q:Z),(∀ a',Fr 106 a' [(0,.pointer (some ⟨tb,0,none⟩)),(1,.int .i64 (s:Nat)),(3,v3),(10,.slice A n c),(11,.pointer (some ⟨q,0,none⟩)),(61,.bool (decide (0<K)))]->Q .normal a' w)->(part [1,1,1,1,0,0] (codeOf shipF)).wp prog Q a w:=by
  intro Q hQ
  have c12:=hq.c1 12
  have HQ:=J hQ
  clear hQ hq ho
  refine gg hfr fun t=>?_
  go_wp2_with fail
  exact HQ.out _ ff
 refine r5 _ fun a1 hf1=>?_
 show (part [1,1,1,1,0,1] (codeOf shipF)).wp prog Q a1 w
 obtain⟨hd,hs1,f0,f1,f3,f10,f11,f61,-⟩:=id hf1
 refine wp_if (o:=.tmp 61) (x:=part [1,1,1,1,0,1,0] (codeOf shipF)) (y:=part [1,1,1,1,0,1,1] (codeOf shipF)) (t:=decide (0<K)) kr (eval_at f61 rfl) (fun ht=>?_) fun ht=>?_
 ·have hK0:0<K:=by have:=of_decide_eq_true ht;omega
  obtain⟨m,rfl⟩:∃ m,K=m+1:=⟨K-1,by omega⟩
  obtain⟨ad,o,oA,on,oc,rfl,hab,hck,hop,hss⟩:=ho.at_ (k:=m) (by omega)
  have e1:epAt os (m+1)=o.epoch:=by
   unfold epAt
   rw [if_neg (by omega),show m+1-1=m from rfl,hck]
  have hop1:=hop.2.1
  have c12:=hq.c1 12
  have f13:=hq.frozen 13
  have d13:=hq.c1 13
  have hk:Blk (w.setCell ⟨q,13,none⟩ (.int .i64 o.epoch)) q 47 (cmd0 3 hE (s:Nat) ((m+1:Nat)) (epAt os (m+1)) none 0 0):=by rw [e1];exact hq.set_ 13 (.int .i64 o.epoch)
  have hb1:(0:Int)<=(m:Int):=by omega
  have hb2:(m:Int)<(n:Int):=by omega
  have kp:Kept (fun b=>b≠q) w (w.setCell ⟨q,13,none⟩ (.int .i64 o.epoch)):=(Kept.refl _ _).set_ ⟨q,13,none⟩ (.inl fun h=>h rfl) _
  have bl:Below q w (w.setCell ⟨q,13,none⟩ (.int .i64 o.epoch)):=(Below.refl _ _).setCell (p:=⟨q,13,none⟩) (Nat.le_refl _) _
  obtain⟨HQ,HK,KP,BL⟩:=J4 hQ hk kp bl
  have hm1:wrap64 ((m:Int)+1-1)=(m:Nat):=by rw [show (m:Int)+1-1=(m:Nat) by omega];exact IntWalk.wrap64_in _ (by omega)
  clear hQ hk kp bl hss ho hck hop e1 hf1 hK0 ht hq hK hab
  have hfr2:Fr 106 a1 [(0,.pointer (some ⟨tb,0,none⟩)),(1,.int .i64 (s:Nat)),(3,v3),(10,.slice (some ad) n c),(11,.pointer (some ⟨q,0,none⟩))]:=⟨hd,hs1,f0,f1,f3,f10,f11,trivial⟩
  refine gg hfr2 fun t=>?_
  go_wp2_with fail
  exact HQ.out _ _ ff HK.out KP.out BL.out
 ·have hK0:K=0:=by have:=of_decide_eq_false ht;omega
  subst hK0
  refine wp_nop kr ?_
  exact hQ a1 w ⟨hd,hs1,f0,f1,f3,f10,f11,trivial⟩ hq (Kept.refl _ _) (Below.refl _ _)
theorem ts7 {r:Nat} {ep:Int} (Q:Z) (a:Act) (hfr:Fr 106 a [(0,.pointer (some ⟨tb,0,none⟩)),(1,.int .i64 (s:Nat)),(3,.int .i64 y),(10,.slice A n c),(11,.pointer (some ⟨q,0,none⟩))])
 (hq:Blk w q 47 (cmd0 3 hE (s:Nat) (K:Nat) ep none 0 0)) (hK:K<=n) (hn:n<=4096) (hc:n<=c) (hcm:c<=maxLen) (hr:IntKind.i64.wrap ((IntKind.u64.wrap y).tmod 9)=(r:Nat)) (hr8:r<=8) (hr2:IntKind.u64.wrap ((IntKind.u64.wrap y).tmod 9)=(IntKind.u64.wrap y).tmod 9)
 (hQ:∀ a' w',Fr 106 a' [(0,.pointer (some ⟨tb,0,none⟩)),(1,.int .i64 (s:Nat)),(11,.pointer (some ⟨q,0,none⟩))]->Blk w' q 47 (cmd0 3 hE (s:Nat) (K:Nat) ep (if c=K then A else A.map (·.add (K*9))) (min n (K+r)-K) (c-K))->Kept (fun b=>b≠q) w w'->Below q w w'->Q .normal a' w') :
 (part [1,1,1,1,1,0] (codeOf shipF)).wp prog Q a w:=by
 obtain⟨A2,hA2⟩:∃ A2,A2=(if c=K then A else A.map (·.add (K*9))):=⟨_,rfl⟩
 obtain⟨M,hM⟩:∃ M,M=min n (K+r):=⟨_,rfl⟩
 have hsl:=fun w=>slice_of A n c K M (by omega) (by omega) hc hcm w
 rw [<-hA2] at hsl
 rw [<-hA2,<-hM] at hQ
 have hk:Blk (w.setCell ⟨q,14,none⟩ (.slice A2 (M-K) (c-K))) q 47 (cmd0 3 hE (s:Nat) (K:Nat) ep A2 (M-K) (c-K)):=hq.set_ 14 _
 have kp:Kept (fun b=>b≠q) w (w.setCell ⟨q,14,none⟩ (.slice A2 (M-K) (c-K))):=(Kept.refl _ _).set_ ⟨q,14,none⟩ (.inl fun h=>h rfl) _
 have bl:Below q w (w.setCell ⟨q,14,none⟩ (.slice A2 (M-K) (c-K))):=(Below.refl _ _).setCell (p:=⟨q,14,none⟩) (Nat.le_refl _) _
 have hkr:IntKind.i64.wrap ((K:Int)+(r:Nat))=(K:Int)+(r:Nat):=IntWalk.i64_in _ (by omega)
 have hmin:(if (K:Int)+(r:Nat)<(n:Nat) then (K:Int)+(r:Nat) else (n:Nat))=((M:Nat):Int):=by split<;>omega
 obtain⟨HQ,HK,KP,BL,HS,HR,HR2,HKR,HM⟩:=J9 hQ hk kp bl hsl hr hr2 hkr hmin
 have HB:=J hq
 clear hQ hk kp bl hsl hA2 hq hr hr2 hkr hmin hM hK hn hc hcm hr8
 obtain⟨d,z0,f0,f1,f3,f10,f11,-⟩:=hfr
 have z:=J z0
 have t0:=of_at f0
 have t1:=of_at f1
 have t3:=of_at f3
 have t10:=of_at f10
 have t11:=of_at f11
 clear z0 f0 f1 f3 f10 f11
 refine wp_region_ops (id:=7) kr ?_
 conv=>arg 4;whnf
 refine wpl_v 70 (.slice A n c) (by rw [z.out];decide) fun a nx=>?_
 obtain⟨dd,zz,t70,oo⟩:=nx
 replace d:=dd.trans d
 replace z:=J (zz.trans z.out)
 replace t0:=(oo 0 (by decide)).trans t0
 replace t1:=(oo 1 (by decide)).trans t1
 replace t3:=(oo 3 (by decide)).trans t3
 replace t10:=(oo 10 (by decide)).trans t10
 replace t11:=(oo 11 (by decide)).trans t11
 clear dd zz oo
 conv=>arg 4;whnf
 refine wpl_v 71 (.pointer (some ⟨q,12,none⟩)) (by rw [z.out];decide) fun a nx=>?_
 obtain⟨dd,zz,t71,oo⟩:=nx
 replace d:=dd.trans d
 replace z:=J (zz.trans z.out)
 replace t0:=(oo 0 (by decide)).trans t0
 replace t1:=(oo 1 (by decide)).trans t1
 replace t3:=(oo 3 (by decide)).trans t3
 replace t10:=(oo 10 (by decide)).trans t10
 replace t11:=(oo 11 (by decide)).trans t11
 replace t70:=(oo 70 (by decide)).trans t70
 clear dd zz oo
 conv=>arg 4;whnf
 have d12:=HB.out.c1 12
 refine wpl_v 72 (.int .i64 (K:Nat)) (by rw [z.out];decide) fun a nx=>?_
 obtain⟨dd,zz,t72,oo⟩:=nx
 replace d:=dd.trans d
 replace z:=J (zz.trans z.out)
 replace t0:=(oo 0 (by decide)).trans t0
 replace t1:=(oo 1 (by decide)).trans t1
 replace t3:=(oo 3 (by decide)).trans t3
 replace t10:=(oo 10 (by decide)).trans t10
 replace t11:=(oo 11 (by decide)).trans t11
 replace t70:=(oo 70 (by decide)).trans t70
 clear dd zz oo t71
 conv=>arg 4;whnf
 refine wpl_v 73 (.slice A n c) (by rw [z.out];decide) fun a nx=>?_
 obtain⟨dd,zz,t73,oo⟩:=nx
 replace d:=dd.trans d
 replace z:=J (zz.trans z.out)
 replace t0:=(oo 0 (by decide)).trans t0
 replace t1:=(oo 1 (by decide)).trans t1
 replace t3:=(oo 3 (by decide)).trans t3
 replace t11:=(oo 11 (by decide)).trans t11
 replace t70:=(oo 70 (by decide)).trans t70
 replace t72:=(oo 72 (by decide)).trans t72
 clear dd zz oo t10
 conv=>arg 4;whnf
 refine wpl_v 74 (.int .i64 (n:Nat)) (by rw [z.out];decide) fun a nx=>?_
 obtain⟨dd,zz,t74,oo⟩:=nx
 replace d:=dd.trans d
 replace z:=J (zz.trans z.out)
 replace t0:=(oo 0 (by decide)).trans t0
 replace t1:=(oo 1 (by decide)).trans t1
 replace t3:=(oo 3 (by decide)).trans t3
 replace t11:=(oo 11 (by decide)).trans t11
 replace t70:=(oo 70 (by decide)).trans t70
 replace t72:=(oo 72 (by decide)).trans t72
 clear dd zz oo t73
 conv=>arg 4;whnf
 refine wpl_v 75 (.pointer (some ⟨q,12,none⟩)) (by rw [z.out];decide) fun a nx=>?_
 obtain⟨dd,zz,t75,oo⟩:=nx
 replace d:=dd.trans d
 replace z:=J (zz.trans z.out)
 replace t0:=(oo 0 (by decide)).trans t0
 replace t1:=(oo 1 (by decide)).trans t1
 replace t3:=(oo 3 (by decide)).trans t3
 replace t11:=(oo 11 (by decide)).trans t11
 replace t70:=(oo 70 (by decide)).trans t70
 replace t72:=(oo 72 (by decide)).trans t72
 replace t74:=(oo 74 (by decide)).trans t74
 clear dd zz oo
 conv=>arg 4;whnf
 have d12:=HB.out.c1 12
 refine wpl_v 76 (.int .i64 (K:Nat)) (by rw [z.out];decide) fun a nx=>?_
 obtain⟨dd,zz,t76,oo⟩:=nx
 replace d:=dd.trans d
 replace z:=J (zz.trans z.out)
 replace t0:=(oo 0 (by decide)).trans t0
 replace t1:=(oo 1 (by decide)).trans t1
 replace t3:=(oo 3 (by decide)).trans t3
 replace t11:=(oo 11 (by decide)).trans t11
 replace t70:=(oo 70 (by decide)).trans t70
 replace t72:=(oo 72 (by decide)).trans t72
 replace t74:=(oo 74 (by decide)).trans t74
 clear dd zz oo t75
 conv=>arg 4;whnf
 refine wpl_v 77 (.int .i64 y) (by rw [z.out];decide) fun a nx=>?_
 obtain⟨dd,zz,t77,oo⟩:=nx
 replace d:=dd.trans d
 replace z:=J (zz.trans z.out)
 replace t0:=(oo 0 (by decide)).trans t0
 replace t1:=(oo 1 (by decide)).trans t1
 replace t11:=(oo 11 (by decide)).trans t11
 replace t70:=(oo 70 (by decide)).trans t70
 replace t72:=(oo 72 (by decide)).trans t72
 replace t74:=(oo 74 (by decide)).trans t74
 replace t76:=(oo 76 (by decide)).trans t76
 clear dd zz oo t3
 conv=>arg 4;whnf
 refine wpl_v 78 (.int .u64 (IntKind.u64.wrap y)) (by rw [z.out];decide) fun a nx=>?_
 obtain⟨dd,zz,t78,oo⟩:=nx
 replace d:=dd.trans d
 replace z:=J (zz.trans z.out)
 replace t0:=(oo 0 (by decide)).trans t0
 replace t1:=(oo 1 (by decide)).trans t1
 replace t11:=(oo 11 (by decide)).trans t11
 replace t70:=(oo 70 (by decide)).trans t70
 replace t72:=(oo 72 (by decide)).trans t72
 replace t74:=(oo 74 (by decide)).trans t74
 replace t76:=(oo 76 (by decide)).trans t76
 clear dd zz oo t77
 conv=>arg 4;whnf
 refine wpl_v 79 (.int .u64 ((IntKind.u64.wrap y).tmod 9)) (by rw [z.out];decide) (h:=by unfold execOp;go_simp;all_goals first|rfl|exact HR.out|exact HR2.out|exact HKR.out|omega) fun a nx=>?_
 obtain⟨dd,zz,t79,oo⟩:=nx
 replace d:=dd.trans d
 replace z:=J (zz.trans z.out)
 replace t0:=(oo 0 (by decide)).trans t0
 replace t1:=(oo 1 (by decide)).trans t1
 replace t11:=(oo 11 (by decide)).trans t11
 replace t70:=(oo 70 (by decide)).trans t70
 replace t72:=(oo 72 (by decide)).trans t72
 replace t74:=(oo 74 (by decide)).trans t74
 replace t76:=(oo 76 (by decide)).trans t76
 clear dd zz oo t78
 conv=>arg 4;whnf
 refine wpl_v 80 (.int .i64 (r:Nat)) (by rw [z.out];decide) (h:=by unfold execOp;go_simp;all_goals first|rfl|exact HR.out|exact HR2.out|exact HKR.out|omega) fun a nx=>?_
 obtain⟨dd,zz,t80,oo⟩:=nx
 replace d:=dd.trans d
 replace z:=J (zz.trans z.out)
 replace t0:=(oo 0 (by decide)).trans t0
 replace t1:=(oo 1 (by decide)).trans t1
 replace t11:=(oo 11 (by decide)).trans t11
 replace t70:=(oo 70 (by decide)).trans t70
 replace t72:=(oo 72 (by decide)).trans t72
 replace t74:=(oo 74 (by decide)).trans t74
 replace t76:=(oo 76 (by decide)).trans t76
 clear dd zz oo t79
 conv=>arg 4;whnf
 refine wpl_v 81 (.int .i64 ((K:Int)+(r:Nat))) (by rw [z.out];decide) (h:=by unfold execOp;go_simp;all_goals first|rfl|exact HR.out|exact HR2.out|exact HKR.out|omega) fun a nx=>?_
 obtain⟨dd,zz,t81,oo⟩:=nx
 replace d:=dd.trans d
 replace z:=J (zz.trans z.out)
 replace t0:=(oo 0 (by decide)).trans t0
 replace t1:=(oo 1 (by decide)).trans t1
 replace t11:=(oo 11 (by decide)).trans t11
 replace t70:=(oo 70 (by decide)).trans t70
 replace t72:=(oo 72 (by decide)).trans t72
 replace t74:=(oo 74 (by decide)).trans t74
 clear dd zz oo t76 t80
 conv=>arg 4;whnf
 refine wpl_v 82 (.int .i64 (if (K:Int)+(r:Nat)<(n:Nat) then (K:Int)+(r:Nat) else (n:Nat))) (by rw [z.out];decide) fun a nx=>?_
 rw [HM.out] at nx
 obtain⟨dd,zz,t82,oo⟩:=nx
 replace d:=dd.trans d
 replace z:=J (zz.trans z.out)
 replace t0:=(oo 0 (by decide)).trans t0
 replace t1:=(oo 1 (by decide)).trans t1
 replace t11:=(oo 11 (by decide)).trans t11
 replace t70:=(oo 70 (by decide)).trans t70
 replace t72:=(oo 72 (by decide)).trans t72
 clear dd zz oo t74 t81
 conv=>arg 4;whnf
 refine wpl_v 83 (.slice A2 (M-K) (c-K)) (by rw [z.out];decide) (h:=by have q1:=HS.out w;unfold execOp;go_simp) fun a nx=>?_
 obtain⟨dd,zz,t83,oo⟩:=nx
 replace d:=dd.trans d
 replace z:=J (zz.trans z.out)
 replace t0:=(oo 0 (by decide)).trans t0
 replace t1:=(oo 1 (by decide)).trans t1
 replace t11:=(oo 11 (by decide)).trans t11
 clear dd zz oo t70 t72 t82
 conv=>arg 4;whnf
 refine wpl_v 84 (.pointer (some ⟨q,14,none⟩)) (by rw [z.out];decide) fun a nx=>?_
 obtain⟨dd,zz,t84,oo⟩:=nx
 replace d:=dd.trans d
 replace z:=J (zz.trans z.out)
 replace t0:=(oo 0 (by decide)).trans t0
 replace t1:=(oo 1 (by decide)).trans t1
 replace t11:=(oo 11 (by decide)).trans t11
 replace t83:=(oo 83 (by decide)).trans t83
 clear dd zz oo
 conv=>arg 4;whnf
 have d14:=HB.out.c1 14
 have f14:=HB.out.frozen 14
 refine wpl_s (w.setCell ⟨q,14,none⟩ (.slice A2 (M-K) (c-K))) ?_
 clear t83 t84
 conv=>arg 4;whnf
 exact HQ.out a _ ⟨d,z.out,at_of t0,at_of t1,at_of t11,trivial⟩ HK.out KP.out BL.out
end
end Go.Proofs.Ytaipgdhdfpemcaa
