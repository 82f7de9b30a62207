/- THE WALKS OF LaneEnds, part 5. -/
import Derived.Test.YtaipgdhdfpemcaaH1
import Derived.Test.YtaipgdhdfpemcaaH2
import Derived.Test.YtaipgdhdfpemcaaH3
namespace Go.Proofs.Ytaipgdhdfpemcaa
set_option linter.all false
open Go.RowKit Go.Proofs.Try
set_option maxRecDepth 100000
set_option maxHeartbeats 4000000
theorem ts8 {w:World} {tb s u q K pn pc:Nat} {g0 g1:Value} {T hE ep:Int} {X:Nat->Prop} {sA:O} {sn sc:Nat} {tA:O} {tn tc:Nat} {pA:O} {xs:List CmdX} {cc:CmdC} {ts:List Nat} (Q:Z) (a:Act) (hfr:Fr 106 a [(0,.pointer (some ⟨tb,0,none⟩)),(1,.int .i64 (s:Nat)),(11,.pointer (some ⟨q,0,none⟩))]) (hu:(1:Int)-(s:Nat)=(u:Nat)) (hs:s<2)
 (hq:Blk w q 47 (cmd0 3 hE (s:Nat) (K:Nat) ep pA pn pc)) (nq:¬ X q/\q≠tb) (hst:Sh80 w tb X sA tA ⟨(cmd0 3 hE (s:Nat) (K:Nat) ep pA pn pc).toList,cc⟩) (hB:Blk w tb 119 #[g0,g1,.int .i64 T,.slice sA sn sc,.slice tA tn tc])
 (hS:SentIs w (tb+1) (fun b=>X b/\some b≠ob tA) sA sn sc xs) (hT:ToIs w (tb+1) tA tn tc ts) (hn:sn<=4096) (hn2:tn<=4096)
 (hQ:∀ a' W,Fr 106 a' []->(∃ sA' sc' tA' tc',Blk W tb 119 #[g0,g1,.int .i64 T,.slice sA' (sn+1) sc',.slice tA' (tn+1) tc']/\SentIs W (tb+1) (fun b=>(X b\/(w.heap.size<=b/\b<W))/\some b≠ob tA') sA' (sn+1) sc' (xs++[⟨(cmd0 3 hE (s:Nat) (K:Nat) ep pA pn pc).toList,cc⟩])/\ToIs W (tb+1) tA' (tn+1) tc' (ts++[u])/\∀ b,ob tA'=some b->X b\/(w.heap.size<=b/\b<W))->Kept (fun b=>¬ X b/\b≠tb) w W->Below tb w W->Q .normal a' W) :
 (part [1,1,1,1,1,1,0] (codeOf shipF)).wp prog Q a w:=by
 have e0:w.drew.heap=w.heap:=rfl
 have HU:=J hu
 obtain⟨HN,HN2,HNQ⟩:=J3 hn hn2 nq
 obtain⟨w0,hw0⟩:∃ w0,w0=w.drew:=⟨_,rfl⟩
 have hq0:Blk w0 q 47 (cmd0 3 hE (s:Nat) (K:Nat) ep pA pn pc):=by rw [hw0];exact hq
 have hst0:Sh80 w0 tb X sA tA ⟨(cmd0 3 hE (s:Nat) (K:Nat) ep pA pn pc).toList,cc⟩:=by rw [hw0];exact⟨hst.tl,hst.tX,hst.Xt,hst.xc.kept ⟨Nat.le_refl _,fun _ _ _=>rfl⟩,hst.x16,hst.xok⟩
 have hB0:Blk w0 tb 119 #[g0,g1,.int .i64 T,.slice sA sn sc,.slice tA tn tc]:=by rw [hw0];exact hB
 have hS0:SentIs w0 (tb+1) (fun b=>X b/\some b≠ob tA) sA sn sc xs:=by rw [hw0];exact hS.kept ⟨Nat.le_refl _,fun _ _ _=>rfl⟩
 have hT0:ToIs w0 (tb+1) tA tn tc ts:=by rw [hw0];exact hT
 have hQ0:∀ a' W,Fr 106 a' []->(∃ sA' sc' tA' tc',Blk W tb 119 #[g0,g1,.int .i64 T,.slice sA' (sn+1) sc',.slice tA' (tn+1) tc']/\SentIs W (tb+1) (fun b=>(X b\/(w0.heap.size<=b/\b<W))/\some b≠ob tA') sA' (sn+1) sc' (xs++[⟨(cmd0 3 hE (s:Nat) (K:Nat) ep pA pn pc).toList,cc⟩])/\ToIs W (tb+1) tA' (tn+1) tc' (ts++[u])/\∀ b,ob tA'=some b->X b\/(w0.heap.size<=b/\b<W))->Kept (fun b=>¬ X b/\b≠tb) w0 W->Below tb w0 W->Q .normal a' W:=by
  rw [hw0]
  exact fun a' W h1 h2 h3 h4=>hQ a' W h1 h2 h3 ⟨h4.os,h4.tape,h4.output,h4.size,h4.block⟩
 obtain⟨HQB,HST,HB,HS,HT,HQ⟩:=J6 hq0 hst0 hB0 hS0 hT0 hQ0
 clear hq hst hB hS hT hQ hq0 hst0 hB0 hS0 hT0 hQ0 e0 hu hn hn2 nq
 refine gg hfr fun t=>?_
 obtain⟨w1,hw1⟩:∃ w1,w1=w:=⟨_,rfl⟩
 rw [<-hw1]
 rw [<-hw1] at hw0
 clear hw1
 have HW0:=J hw0
 clear hw0
 refine wp_region_inv kr (fun L U W'=>Sh8 w0 tb s u g0 g1 T X sA sn sc tA tn tc xs ⟨(cmd0 3 hE (s:Nat) (K:Nat) ep pA pn pc).toList,cc⟩ ts L U W') kr ?hI ?hstep ?hend
 case hI=>
  intro U
  have key:∀ W',W'=w0->Sh8 w0 tb s u g0 g1 T X sA sn sc tA tn tc xs ⟨(cmd0 3 hE (s:Nat) (K:Nat) ep pA pn pc).toList,cc⟩ ts (fun _=>false) U W':=fun W' hW'=>by
   rw [hW']
   exact⟨fun _ _ _ e=>(by cases e),Kept.refl _ _,Below.refl _ _,fun e=>(by cases e),fun e=>(by cases e),fun _=>HB.out,fun e=>(by cases e),fun e=>(by cases e),fun _=>HS.out,fun e=>(by cases e),fun e=>(by cases e),fun _=>HT.out,fun e=>(by cases e)⟩
  exact key _ HW0.out.symm
 case hstep=>
  intro i o F L U W ho hZ hL hat hoff hp
  match i with
  | 0=>
   cases ho
   refine on_ (wanted_none rfl) ?_
   have t0:F.tmps[0]?.getD undef=.pointer (some ⟨tb,0,none⟩):=act_tmp ((hoff 0 kd).trans rfl)
   exact vl ⟨_,rfl,hZ.upd 0 _ rfl⟩ (h:=by unfold execOp;go_simp)
  | 1=>
   cases ho
   refine on_ (wanted_none rfl) ?_
   have t0:F.tmps[0]?.getD undef=.pointer (some ⟨tb,0,none⟩):=act_tmp ((hoff 0 kd).trans rfl)
   exact vl ⟨_,rfl,hZ.upd 1 _ rfl⟩ (h:=by unfold execOp;go_simp)
  | 2=>
   cases ho
   refine on_ (wanted_none rfl) ?_
   have t0:F.tmps[0]?.getD undef=.pointer (some ⟨tb,0,none⟩):=act_tmp ((hoff 0 kd).trans rfl)
   exact vl ⟨_,rfl,hZ.upd 2 _ rfl⟩ (h:=by unfold execOp;go_simp)
  | 3=>
   cases ho
   refine on_ (wanted_none rfl) ?_
   have l2:=hp ⟨2,.data⟩ (by simp) rfl
   have t87:=act_tmp ((hat 2 87 kd rfl).trans (hZ.st 2 _ rfl l2))
   exact vl ⟨_,rfl,hZ.upd 3 _ rfl⟩ (h:=by unfold execOp;go_simp)
  | 4=>
   cases ho
   refine on_ (wanted_none rfl) ?_
   have l3:=hp ⟨3,.data⟩ (by simp) rfl
   have t88:=act_tmp ((hat 3 88 kd rfl).trans (hZ.st 3 _ rfl l3))
   exact vl ⟨_,rfl,hZ.upd 4 _ rfl⟩ (h:=by unfold execOp;go_simp)
  | 5=>
   cases ho
   refine on_ (wanted_none rfl) ?_
   have l4:=hp ⟨4,.data⟩ (by simp) rfl
   have t89:=act_tmp ((hat 4 89 kd rfl).trans (hZ.st 4 _ rfl l4))
   have n19:L 19=false:=by
    cases e:L 19 with
    | false=>rfl
    | true=>have h:=(hZ.o19 e).1;rw [hL] at h;cases h
   have d3:=(hZ.tbk n19).c1 3
   have d4:=(hZ.tbk n19).c1 4
   exact vl ⟨_,rfl,hZ.upd 5 _ rfl⟩ (h:=by unfold execOp;go_simp)
  | 6=>
   cases ho
   refine on_ (wanted_none rfl) ?_
   have e11:F.eval (.tmp 11)=.pointer (some ⟨q,0,none⟩):=(hoff 11 kd).trans rfl
   have hqW:Blk W q 47 (cmd0 3 hE (s:Nat) (K:Nat) ep pA pn pc):=(hZ.kp.2 q ⟨.inl HNQ.out.1,HNQ.out.2⟩ HQB.out.lt).trans HQB.out
   exact wp_load_mid 47 (.tmp 11) rfl q 0 e11 _ _ hqW.range underlying47 rfl Try.sizeCmd ⟨_,rfl,hZ.upd 6 _ rfl⟩
  | 7=>
   cases ho
   refine on_ (wanted_none rfl) ?_
   have l6:=hp ⟨6,.data⟩ (by simp) rfl
   have t91:F.tmps[91]?.getD undef=.agg (cmd0 3 hE (s:Nat) (K:Nat) ep pA pn pc):=act_tmp ((hat 6 91 kd rfl).trans (hZ.st 6 _ rfl l6))
   have hnew:=hZ.s7 HST.out
   exact wp_value' (.slice (some ⟨W.heap.size,0,none⟩) 1 1) (W.alloc (.cells (cmd0 3 hE (s:Nat) (K:Nat) ep pA pn pc) 47)) (by unfold execOp;go_simp) ⟨_,rfl,hnew⟩
  | 8=>
   cases ho
   refine on_ (wanted_none rfl) ?_
   have l5:=hp ⟨5,.data⟩ (by simp) rfl
   have e90:F.eval (.tmp 90)=.slice sA sn sc:=(hat 5 90 kd rfl).trans (hZ.st 5 _ rfl l5)
   have l7:=hp ⟨7,.data⟩ (by simp) rfl
   obtain⟨b,u7,hge,hk⟩:=hZ.v7 l7
   have e92:=(hat 7 92 kd rfl).trans u7
   have hz:=hZ.kp.1
   have hxc:=(HST.out.xc.kept (hZ.kp.mono fun b _ q=>⟨.inr q.2,fun e=>by have:=(HST.out.Xt b q.1).1;omega⟩)).mono (S':=fun b=>(X b/\some b≠ob tA)/\some b≠ob sA) fun b _ q=>⟨⟨q.1,q.2.1⟩,q.2.2⟩
   obtain⟨A',c',w',hrun,r1,r2,r3⟩:=run_append_sent (c2:=1) 22 (hZ.s0 hL) (hk.reads (n:=1) (size:=16) (by rw [List.size_toArray];exact HST.out.x16)) HST.out.x16 hxc HST.out.xok HN.out (by have:=HST.out.tl;omega)
   refine wp_value' (.slice A' (sn+1) c') w' (by unfold execOp;simp [resolve,invoke,builtin,e90,e92,hrun,Result.andThen]) ⟨_,rfl,hZ.s8 HST.out hL r1 r2 r3⟩
  | 9=>
   cases ho
   refine on_ (wanted_none rfl) ?_
   have t0:F.tmps[0]?.getD undef=.pointer (some ⟨tb,0,none⟩):=act_tmp ((hoff 0 kd).trans rfl)
   exact vl ⟨_,rfl,hZ.upd 9 _ rfl⟩ (h:=by unfold execOp;go_simp)
  | 10=>
   cases ho
   refine on_ (wanted_none rfl) ?_
   have l9:=hp ⟨9,.data⟩ (by simp) rfl
   have t94:=act_tmp ((hat 9 94 kd rfl).trans (hZ.st 9 _ rfl l9))
   exact vl ⟨_,rfl,hZ.upd 10 _ rfl⟩ (h:=by unfold execOp;go_simp)
  | 11=>
   cases ho
   refine on_ (wanted_none rfl) ?_
   have l10:=hp ⟨10,.data⟩ (by simp) rfl
   have t95:=act_tmp ((hat 10 95 kd rfl).trans (hZ.st 10 _ rfl l10))
   exact vl ⟨_,rfl,hZ.upd 11 _ rfl⟩ (h:=by unfold execOp;go_simp)
  | 12=>
   cases ho
   refine on_ (wanted_none rfl) ?_
   have l11:=hp ⟨11,.data⟩ (by simp) rfl
   have t96:=act_tmp ((hat 11 96 kd rfl).trans (hZ.st 11 _ rfl l11))
   have n19:L 19=false:=by
    cases e:L 19 with
    | false=>rfl
    | true=>have h:=(hZ.o19 e).2.1;rw [hL] at h;cases h
   have d3:=(hZ.tbk n19).c1 3
   have d4:=(hZ.tbk n19).c1 4
   exact vl ⟨_,rfl,hZ.upd 12 _ rfl⟩ (h:=by unfold execOp;go_simp)
  | 13=>
   cases ho
   refine on_ (wanted_none rfl) ?_
   have t1:F.tmps[1]?.getD undef=.int .i64 (s:Nat):=act_tmp ((hoff 1 kd).trans rfl)
   exact vl ⟨_,rfl,hZ.upd 13 _ rfl⟩ (h:=by unfold execOp;go_simp)
  | 14=>
   cases ho
   refine on_ (wanted_none rfl) ?_
   have l13:=hp ⟨13,.data⟩ (by simp) rfl
   have t98:=act_tmp ((hat 13 98 kd rfl).trans (hZ.st 13 _ rfl l13))
   have hw:IntKind.i64.wrap ((1:Int)-(s:Nat))=(u:Nat):=by rw [HU.out];exact IntWalk.i64_in _ (by have:=HU.out;omega)
   exact vl ⟨_,rfl,hZ.upd 14 _ rfl⟩ (h:=by unfold execOp;go_simp;all_goals first|rfl|exact hw|omega)
  | 15=>
   cases ho
   refine on_ (wanted_none rfl) ?_
   have l14:=hp ⟨14,.data⟩ (by simp) rfl
   have t99:F.tmps[99]?.getD undef=.int .i64 (u:Nat):=act_tmp ((hat 14 99 kd rfl).trans (hZ.st 14 _ rfl l14))
   exact wp_value' (.slice (some ⟨W.heap.size,0,none⟩) 1 1) (W.alloc (.cells #[.int .i64 (u:Nat)] 3)) (by unfold execOp;go_simp) ⟨_,rfl,hZ.s15 HST.out⟩
  | 16=>
   cases ho
   refine on_ (wanted_none rfl) ?_
   have l12:=hp ⟨12,.data⟩ (by simp) rfl
   have e97:F.eval (.tmp 97)=.slice tA tn tc:=(hat 12 97 kd rfl).trans (hZ.st 12 _ rfl l12)
   have l15:=hp ⟨15,.data⟩ (by simp) rfl
   obtain⟨b,u15,hge,hk⟩:=hZ.v15 l15
   have e100:=(hat 15 100 kd rfl).trans u15
   have hz:=hZ.kp.1
   obtain⟨A',c',w',hrun,r1,r2,r3⟩:=run_append_to (c2:=1) 27 (hZ.t0 hL) (hk.reads (n:=1) (size:=1) rfl) HN2.out (by have:=HST.out.tl;omega)
   refine wp_value' (.slice A' (tn+1) c') w' (by unfold execOp;simp [resolve,invoke,builtin,e97,e100,hrun,Result.andThen]) ⟨_,rfl,hZ.s16 HST.out hL r1 r2 r3⟩
  | 17=>
   cases ho
   refine on_ (wanted_none rfl) ?_
   have l0:=hp ⟨0,.data⟩ (by simp) rfl
   have t85:=act_tmp ((hat 0 85 kd rfl).trans (hZ.st 0 _ rfl l0))
   exact vl ⟨_,rfl,hZ.upd 17 _ rfl⟩ (h:=by unfold execOp;go_simp)
  | 18=>
   cases ho
   refine on_ (wanted_none rfl) ?_
   have l17:=hp ⟨17,.data⟩ (by simp) rfl
   have t102:=act_tmp ((hat 17 102 kd rfl).trans (hZ.st 17 _ rfl l17))
   exact vl ⟨_,rfl,hZ.upd 18 _ rfl⟩ (h:=by unfold execOp;go_simp)
  | 19=>
   cases ho
   refine on_ (wanted_none rfl) ?_
   have l18:=hp ⟨18,.data⟩ (by simp) rfl
   have t103:=act_tmp ((hat 18 103 kd rfl).trans (hZ.st 18 _ rfl l18))
   have l8:=hp ⟨8,.data⟩ (by simp) rfl
   have l16:=hp ⟨16,.chain⟩ (by simp) rfl
   have l5:=hp ⟨5,.phase⟩ (by simp) rfl
   have l12:=hp ⟨12,.phase⟩ (by simp) rfl
   have e93:F.eval (.tmp 93)=U 8:=hat 8 93 kd rfl
   have t93:=act_tmp e93
   have hb:=hZ.tbk hL
   have d3:=hb.c1 3
   have f3:=hb.frozen 3
   obtain⟨A',c',u8,-⟩:=hZ.v8 l8
   have hn:=hZ.s19 HST.out hL ⟨l5,l12,l8,l16⟩ undef
   rw [u8] at t93
   rw [u8] at hn
   exact wp_skip' (W.setCell ⟨tb,3,none⟩ (.slice A' (sn+1) c')) (by unfold execOp;go_simp) ⟨_,rfl,hn⟩
  | 20=>
   cases ho
   refine on_ (wanted_none rfl) ?_
   have l1:=hp ⟨1,.data⟩ (by simp) rfl
   have t86:=act_tmp ((hat 1 86 kd rfl).trans (hZ.st 1 _ rfl l1))
   exact vl ⟨_,rfl,hZ.upd 20 _ rfl⟩ (h:=by unfold execOp;go_simp)
  | 21=>
   cases ho
   refine on_ (wanted_none rfl) ?_
   have l20:=hp ⟨20,.data⟩ (by simp) rfl
   have t104:=act_tmp ((hat 20 104 kd rfl).trans (hZ.st 20 _ rfl l20))
   exact vl ⟨_,rfl,hZ.upd 21 _ rfl⟩ (h:=by unfold execOp;go_simp)
  | 22=>
   cases ho
   refine on_ (wanted_none rfl) ?_
   have l21:=hp ⟨21,.data⟩ (by simp) rfl
   have t105:=act_tmp ((hat 21 105 kd rfl).trans (hZ.st 21 _ rfl l21))
   have l16:=hp ⟨16,.data⟩ (by simp) rfl
   have l19:=hp ⟨19,.chain⟩ (by simp) rfl
   have e101:F.eval (.tmp 101)=U 16:=hat 16 101 kd rfl
   have t101:=act_tmp e101
   have hb:=hZ.v19 l19
   have d4:=hb.c1 4
   have f4:=hb.frozen 4
   rw [if_neg (show ¬ L 22=true by rw [hL];decide)] at d4
   obtain⟨A',c',u16,-⟩:=hZ.v16 l16
   have hn:=hZ.s22 HST.out l19 hL undef
   rw [u16] at t101
   rw [u16] at hn
   exact wp_skip' (W.setCell ⟨tb,4,none⟩ (.slice A' (tn+1) c')) (by unfold execOp;go_simp) ⟨_,rfl,hn⟩
  | i+23=>exact absurd ho (by simp)
 case hend=>
  intro U L W hZ hall
  have h19:=hall 19 (by decide)
  have h22:=hall 22 (by decide)
  have hb:=hZ.v19 h19
  rw [if_pos h22] at hb
  obtain⟨A1,c1,u8,k8⟩:=hZ.v8 (hall 8 (by decide))
  obtain⟨A2,c2,u16,k16,o16⟩:=hZ.v16 (hall 16 (by decide))
  rw [u8,u16] at hb
  have h16:=hall 16 (by decide)
  have hk:=hZ.kp.mono (S':=fun b=>¬ X b/\b≠tb) fun b _ q=>⟨.inl q.1,q.2⟩
  have hl:=hZ.low
  have k8':=k8.mono (S':=fun b=>(X b\/(w0.heap.size<=b/\b<W))/\some b≠ob A2) fun b hb q=>⟨q.1.imp id fun h=>⟨h,hb⟩,by have:=q.2.2 h16;rw [u16,ownBlock_slice] at this;exact this⟩
  have o16':∀ b,ob A2=some b->X b\/(w0.heap.size<=b/\b<W):=fun b hb=>(o16 b hb).imp (HST.out.tX b) fun h=>⟨h,(k16.lt b hb).2⟩
  clear hZ hall
  simp [putU,dstAt,Act.put]
  exact HQ.out _ W ⟨rfl,rfl,trivial⟩ ⟨A1,c1,A2,c2,hb,k8',k16,o16'⟩ hk hl
def Shipped (w:World) (tb:Nat) (g:Nat->Nat) (Y:Nat->Nat->Prop) (X:Nat->Prop) (k:Nat) (t:Tn) (s:Nat) (d:Bool) (w':World):Prop:=
 (d=false/\Below w w w')\/(d=true/\holderC (t.L s)=(t.f s,(s:Int))/\t.f s≠0/\∃ (c:CmdC) (m n:Nat),m<=(t.L s).length/\c.kind=3/\c.epoch=t.f s/\c.after=m/\c.since=epAt (t.L s) m/\c.ops=((t.L s).drop m).take n/\
  Town w' tb g Y (fun b=>X b\/(w.heap.size<=b/\b<w')) k {t with sent:=t.sent++[(c,1-s)]}/\Below tb w w')
section
variable {w:World} {tb:Nat} {g:Nat->Nat} {Y:Nat->Nat->Prop} {X:Nat->Prop} {k:Nat} {t:Tn} {s:Nat}
theorem ts9 (Q:Z) (a:Act) (h:a.defers=[]/\a.tmps.size=106) (R:Ending->World->Prop) (hR:R (.returned (.bool true)) w) (hQ:Q=bodyPost prog shipF R) :
 (part [1,1,1,1,1,1,1] (codeOf shipF)).wp prog Q a w:=by
 subst hQ
 have hfr:Fr 106 a []:=⟨h.1,h.2,trivial⟩
 have HR:=J hR
 clear hR h
 refine gg hfr fun t=>?_
 go_wp2_with fail
 exact HR.out
theorem ts3 (Q:Z) (a:Act) (h:a.defers=[]/\a.tmps.size=106) (R:Ending->World->Prop) (hR:R (.returned (.bool false)) w) (hQ:∀ a' w',bodyPost prog shipF R .ret a' w'->Q .ret a' w') :
 (part [1,1,0,1,0] (codeOf shipF)).wp prog Q a w:=by
 have hfr:Fr 106 a []:=⟨h.1,h.2,trivial⟩
 obtain⟨HR,HQ⟩:=J2 hR hQ
 clear hR h hQ
 exact EY5
theorem rem_place (a:Int) (n:Nat) (hn:1<=n/\n<=4096):∃ K:Nat,K<n/\IntKind.i64.wrap ((IntKind.u64.wrap a).tmod (n:Int))=(K:Int)/\IntKind.u64.wrap ((IntKind.u64.wrap a).tmod (n:Int))=(IntKind.u64.wrap a).tmod (n:Int):=by
 obtain⟨z,hz⟩:∃ z,z=IntKind.u64.wrap a:=⟨_,rfl⟩
 have h0:0<=z:=by rw [hz,IntKind.wrap_u64];omega
 rw [<-hz,Int.tmod_eq_emod_of_nonneg h0]
 have h1:=Int.emod_nonneg z (b:=(n:Int)) (by omega)
 have h2:=Int.emod_lt_of_pos z (b:=(n:Int)) (by omega)
 refine⟨(z % (n:Int)).toNat,by omega,?_,IntWalk.u64_in _ (by omega)⟩
 rw [show IntKind.i64.wrap (z % (n:Int))=z % (n:Int) from IntWalk.i64_in _ (by omega)]
 omega
theorem Town.ptr (h:Town w tb g Y X k t) (hs:s<2):w.cell? ⟨tb,s,none⟩=some (.pointer (some ⟨g s,0,none⟩)):=by
 obtain⟨sA,sn,sc,tA,tc,xs,h1,_⟩:=h.row
 rcases s with _|_|s
 ·exact h1.c1 0
 ·exact h1.c1 1
 ·omega
theorem Town.tl (h:Town w tb g Y X k t):tb<w:=by
 obtain⟨sA,sn,sc,tA,tc,xs,h1,_⟩:=h.row
 exact h1.lt
theorem Town.opLen (h:Town w tb g Y X k t) (hs:s<2):(t.L s).length<=80:=(h.led s hs).rows.len
theorem Town.more (h:Town w tb g Y X k t) {X':Nat->Prop} (hi:∀ b,X b->X' b) (ho:∀ q,X' q->tb<q/\q<w/\∀ s,s<2->¬ Y s q):Town w tb g Y X' k t:=by
 refine⟨h.led,h.dis,ho,?_⟩
 obtain⟨sA,sn,sc,tA,tc,xs,h1,h2,h3,h4,h5⟩:=h.row
 exact⟨sA,sn,sc,tA,tc,xs,h1,h2.mono fun b _ y=>⟨hi b y.1,y.2⟩,h3,h4,fun q hq=>hi q (h5 q hq)⟩
theorem opz_ok:opZ.Ok:=⟨⟨by decide,by decide⟩,⟨by decide,by decide⟩,⟨by decide,by decide⟩,⟨by decide,by decide⟩,⟨by decide,by decide⟩,⟨by decide,by decide⟩,by decide,⟨by decide,by decide⟩,by decide⟩
theorem ship_rest {x y:Int} {own:Int->Int} {G:List (List OpC)} {b n c:Nat} {A:O} {W:World} (hT:Town w tb g Y X k t) (hs:s<2) (hT16:t.T<=16) (hI:TwoI own G t) (hsz:t.sent.length<=4000) (h1:holderC (t.L s)=(t.f s,(s:Int))) (h2:t.f s≠0) (hn:n=(t.L s).length)
 (a:Act) (hfr:Fr 106 a [(0,.pointer (some ⟨tb,0,none⟩)),(1,.int .i64 (s:Nat)),(2,.int .i64 x),(3,.int .i64 y),(9,.pointer (some ⟨b,0,none⟩)),(10,.slice A n c)])
 (hb:Blk W b 93 #[.int .i64 (t.f s),.int .i64 (s:Nat)]) (ho:OpsIs W (fun q=>w.heap.size<=q/\q≠b) A n c (t.L s)) (hl:Below w w W) :
 (part [1,1,1] (codeOf shipF)).wp prog (bodyPost prog shipF fun e w'=>∃ d,e=.returned (.bool d)/\Shipped w tb g Y X k t s d w') a W:=by
 subst hn
 have hlen:=hT.opLen hs
 have htl:=hT.tl
 have hcap:(t.L s).length<=c/\c<=maxLen:=by obtain⟨_,_,_,h,h'⟩:=ho;exact⟨h,h'⟩
 obtain⟨K,hK,k1,k2⟩:=ship_place x (t.L s).length (by omega)
 obtain⟨r,hr,r1,r2⟩:=rem_place y 9 (by omega)
 refine Wt ?_
 refine sh4 _ a hfr hb (by omega) k1 k2 fun a2 q W2 hf2 hq hqg hl2=>?_
 show (part [1,1,1,1] (codeOf shipF)).wp prog _ a2 W2
 have s1:=hl.size
 have s2:=hl2.size
 have hl02:=hl.trans (hl2.mono s1)
 have ho2:=((ho.mono (S':=fun q=>w.heap.size<=q/\q<W) fun q hq z=>⟨z.1,hq⟩).below hl2)
 refine Wt ?_
 refine ts5 _ a2 hf2 hq ho2 hK (by omega) fun a3 W3 hf3 hq3 hk3 hl3=>?_
 show (part [1,1,1,1,1] (codeOf shipF)).wp prog _ a3 W3
 have ho3:=ho2.kept (hk3.mono fun z _ h e=>by omega)
 have hl03:=hl02.trans (hl3.mono (by omega))
 refine Wt ?_
 refine ts7 _ a3 hf3 hq3 hK (by omega) hcap.1 hcap.2 r1 (by omega) r2 fun a4 W4 hf4 hq4 hk4 hl4=>?_
 show (part [1,1,1,1,1,1] (codeOf shipF)).wp prog _ a4 W4
 have ho4:=ho3.kept (hk4.mono fun z _ h e=>by omega)
 have hl04:=hl03.trans (hl4.mono (by omega))
 have s4:=hl04.size
 have s34:=hk3.1
 have s44:=hk4.1
 have hcut:=ho4.cut (N:=K) (M:=min (t.L s).length (K+r)) (by omega) (by omega)
 refine Wt ?_
 have hT4:=hT.below hl04
 have hYw:∀ r q,r<2->Y r q->q<w:=fun r q hr hq=>((hT.led r hr).1 q hq).2
 have hXw:∀ q,X q->q<w:=fun q hq=>(hT.out q hq).2.1
 have hT4m:=hT4.more (X':=fun z=>X z\/(w.heap.size<=z/\z<W)) (fun _ h=>.inl h) fun z hz=>by
  rcases hz with hz|hz
  ·exact hT4.out z hz
  ·exact⟨by omega,by omega,fun r hr hy=>by have:=hYw r z hr hy;omega⟩
 obtain⟨sA,sn,sc,tA,tc,xs,e1,e2,e3,e4,e5⟩:=hT4m.row
 have hsA:=e2.lt
 have esA:∀ z,ob sA=some z->z<w:=by
  obtain⟨sA',sn',sc',tA',tc',xs',f1,f2,f3,f4,f5⟩:=(hT.below hl04).row
  have hee:=e1.symm.trans f1
  injection hee with hee
  injection hee with hee
  injection hee with hee
  have:sA=sA'/\tA=tA':=by
   simp at hee
   exact⟨hee.1.1,hee.2.1⟩
  intro z hz
  exact hXw z (f2.2.2 z (this.1▸hz)).1
 have etA:∀ z,ob tA=some z->z<w:=by
  obtain⟨sA',sn',sc',tA',tc',xs',f1,f2,f3,f4,f5⟩:=(hT.below hl04).row
  have hee:=e1.symm.trans f1
  injection hee with hee
  injection hee with hee
  injection hee with hee
  have:sA=sA'/\tA=tA':=by
   simp at hee
   exact⟨hee.1.1,hee.2.1⟩
  intro z hz
  exact hXw z (f5 z (this.2▸hz))
 have hxl:xs.length=sn:=by
  have h:=e2.1.1
  have h2:(xs.flatMap (·.cells)).length=xs.length*16:=by
   clear h e1 e3
   have hall:∀ x∈xs,x.cells.length=16:=fun x hx=>(e2.2.1 x hx).1
   clear e2 hsA
   induction xs with
   | nil=>rfl
   | cons a l ih=>
    rw [List.flatMap_cons,List.length_append,hall a (List.mem_cons_self ..),ih (fun x hx=>hall x (List.mem_cons_of_mem _ hx))]
    simp
    omega
  rw [h2] at h
  omega
 have hxs:xs.length=t.sent.length:=by
  have:=congrArg List.length e3
  simpa using this
 obtain⟨os',hos'⟩:∃ os',os'=((t.L s).drop K).take (min (t.L s).length (K+r)-K):=⟨_,rfl⟩
 rw [<-hos'] at hcut
 obtain⟨cc,hcc⟩:∃ cc:CmdC,cc=⟨3,t.f s,s,opZ,K,epAt (t.L s) K,os',0⟩:=⟨_,rfl⟩
 have hft:=hI.ft s hs
 have hlos:os'.length<=80:=by rw [hos',List.length_take,List.length_drop];omega
 have hepb:I64 (epAt (t.L s) K):=by
  unfold epAt
  split
  ·exact⟨by decide,by decide⟩
  ·split
   ·rename_i o ho'
    exact ((hT.led s hs).rows.ok o (List.mem_of_getElem? ho')).epoch
   ·exact⟨by decide,by decide⟩
 have hok:cc.Ok:=by
  have i3:I64 3:=⟨by decide,by decide⟩
  have i0:I64 0:=⟨by decide,by decide⟩
  rw [hcc]
  exact⟨i3,⟨by show -9223372036854775808<=t.f s;omega,by show t.f s<=9223372036854775807;omega⟩,⟨by show -9223372036854775808<=(s:Int);omega,by show (s:Int)<=9223372036854775807;omega⟩,opz_ok,⟨by show -9223372036854775808<=(K:Int);omega,by show (K:Int)<=9223372036854775807;omega⟩,hepb,by show os'.length*96<=_;omega,fun o hm=>(hT.led s hs).rows.ok o (List.mem_of_mem_drop (List.mem_of_mem_take (hos'▸hm))),i0⟩
 have hci:CmdIs W4 (fun z=>(X z\/(w.heap.size<=z/\z<W))/\some z≠ob tA/\some z≠ob sA) (cmd0 3 (t.f s) (s:Nat) (K:Nat) (epAt (t.L s) K) (if c=K then A else A.map (·.add (K*9))) (min (t.L s).length (K+r)-K) (c-K)).toList.toArray cc:=by
  rw [hcc]
  refine⟨none,0,0,_,_,_,rfl,⟨Rs.nil_ _ _ _ _,Nat.le_refl _,Nat.zero_le _⟩,hcut.mono fun z _ hz=>⟨.inr hz,fun e=>?_,fun e=>?_⟩⟩
  ·have:=etA z e.symm;omega
  ·have:=esA z e.symm;omega
 refine ts8 (X:=fun z=>X z\/(w.heap.size<=z/\z<W)) (u:=1-s) (cc:=cc) _ a4 hf4 (by omega) hs hq4 ⟨fun h=>?_,by omega⟩ ⟨hT4.tl,e5,fun z hz=>⟨(hT4m.out z hz).1,(hT4m.out z hz).2.1⟩,hci,rfl,hok⟩ e1 e2 e4 (by omega) (by have:=e4.len;simp at this;omega) fun a5 W5 hf5 hrow hk5 hl5=>?_
 ·rcases h with h|h
  ·have:=hXw q h;omega
  ·omega
 show (part [1,1,1,1,1,1,1] (codeOf shipF)).wp prog _ a5 W5
 obtain⟨sA',sc',tA',tc',g1,g2,g3,g4⟩:=hrow
 have s5:=hk5.1
 refine ts9 _ a5 ⟨hf5.1,hf5.2.1⟩ _ ⟨true,rfl,.inr ⟨rfl,h1,h2,cc,K,min (t.L s).length (K+r)-K,hK,by rw [hcc],by rw [hcc],by rw [hcc],by rw [hcc],by rw [hcc];exact hos',?_,(hl04.mono (by omega)).trans hl5⟩⟩ rfl
 refine⟨fun r hr=>?_,hT.dis,fun z hz=>?_,sA',sn+1,sc',tA',tc',xs++[⟨_,cc⟩],?_,g2.mono fun z hz y=>⟨y.1.elim (fun h=>h.imp id fun h=>⟨h.1,by omega⟩) fun h=>.inr ⟨by omega,h.2⟩,y.2⟩,?_,?_,fun z hz=>(g4 z hz).elim (fun h=>h.imp id fun h=>⟨h.1,by omega⟩) fun h=>.inr ⟨by omega,h.2⟩⟩
 ·exact (hT4.led r hr).kept (hk5.mono fun z _ hz=>⟨fun h=>h.elim (fun h=>(hT.out z h).2.2 r hr hz) fun h=>by have:=hYw r z hr hz;omega,fun e=>by have:=((hT.led r hr).1 z hz).1;omega⟩)
 ·rcases hz with hz|hz
  ·exact⟨(hT.out z hz).1,by have:=hXw z hz;omega,(hT.out z hz).2.2⟩
  ·exact⟨by omega,hz.2,fun r hr hy=>by have:=hYw r z hr hy;omega⟩
 ·exact g1
 ·rw [List.map_append,List.map_append,e3]
  rfl
 ·rw [List.map_append]
  exact g3
theorem tship_any {x y:Int} {own:Int->Int} {G:List (List OpC)} (hT:Town w tb g Y X k t) (hs:s<2) (hT16:t.T<=16) (hI:TwoI own G t) (hsz:t.sent.length<=4000) :
 Calls prog 104 #[.pointer (some ⟨tb,0,none⟩),.int .i64 (s:Nat),.int .i64 x,.int .i64 y] w fun e w'=>∃ d,e=.returned (.bool d)/\Shipped w tb g Y X k t s d w':=by
 have rest:∀ (a:Act),Fr 106 a [(0,.pointer (some ⟨tb,0,none⟩)),(1,.int .i64 (s:Nat)),(2,.int .i64 x),(3,.int .i64 y)]->(part [1] (codeOf shipF)).wp prog (bodyPost prog shipF fun e w'=>∃ d,e=.returned (.bool d)/\Shipped w tb g Y X k t s d w') a w:=by
  intro a hfr
  have hl:=hT.led s hs
  have htl:=hT.tl
  refine Wt ?_
  refine sh1 (gs:=g s) (n:=(t.L s).length) (os:=t.L s) (hE:=(holderC (t.L s)).1) (hS:=(holderC (t.L s)).2) _ a hfr hs (fun W hb=>(hb.cell (show (⟨tb,s,none⟩:Addr).block<w from htl)).trans (hT.ptr hs)) (fun W hb=>holder_led (hl.below hb)) (fun W hb=>ops_led (hl.below hb)) fun a1 w1 b A c hf1 hb1 hge ho1 hl1=>?_
  show (part [1,1] (codeOf shipF)).wp prog _ a1 w1
  have hT1:=hT.below hl1
  refine Wt ?_
  refine Wt ?_
  have hf:∀ w0,w0=w1.drew->Calls prog 24 #[.pointer (some ⟨g s,0,none⟩)] w0 fun x w'=>x=.returned (.int .i64 (t.f s))/\w'=w0:=by
   rintro w0 rfl
   exact fence_led ((hT1.led s hs).below ⟨rfl,rfl,rfl,Nat.le_refl _,fun _ _=>rfl⟩)
  have hdl:Below w w w1.drew:=⟨hl1.os,hl1.tape,hl1.output,hl1.size,hl1.block⟩
  have after:∀ (r:Bool) (a2:Act),Fr 106 a2 [(0,.pointer (some ⟨tb,0,none⟩)),(1,.int .i64 (s:Nat)),(2,.int .i64 x),(3,.int .i64 y),(9,.pointer (some ⟨b,0,none⟩)),(10,.slice A (t.L s).length c),(46,.bool r)]->(r=false->holderC (t.L s)=(t.f s,(s:Int))/\t.f s≠0)->
   (part [1,1,0,1] (codeOf shipF)).wp prog (Exit.then ((part [1,1,1] (codeOf shipF)).wp prog (bodyPost prog shipF fun e w'=>∃ d,e=.returned (.bool d)/\Shipped w tb g Y X k t s d w')) (bodyPost prog shipF fun e w'=>∃ d,e=.returned (.bool d)/\Shipped w tb g Y X k t s d w')) a2 w1.drew:=by
   intro r a2 hf2 hr
   obtain⟨hd,hz,f0,f1,f2,f3,f9,f10,f46,-⟩:=hf2
   refine wp_if (o:=.tmp 46) (x:=part [1,1,0,1,0] (codeOf shipF)) (y:=part [1,1,0,1,1] (codeOf shipF)) (t:=r) kr (eval_at f46 rfl) (fun _=>?_) fun hr0=>?_
   ·exact ts3 _ a2 ⟨hd,hz⟩ (fun e w'=>∃ d,e=.returned (.bool d)/\Shipped w tb g Y X k t s d w') ⟨false,rfl,.inl ⟨rfl,hdl⟩⟩ fun a' w' h=>h
   ·refine wp_nop kr ?_
    obtain⟨h1,h2⟩:=hr hr0
    show (part [1,1,1] (codeOf shipF)).wp prog _ a2 w1.drew
    refine ship_rest hT hs hT16 hI hsz h1 h2 rfl a2 ⟨hd,hz,f0,f1,f2,f3,f9,f10,trivial⟩ ?_ (ho1.kept ⟨Nat.le_refl _,fun _ _ _=>rfl⟩) hdl
    have:Blk w1.drew b 93 #[.int .i64 (holderC (t.L s)).1,.int .i64 (holderC (t.L s)).2]:=hb1
    rw [h1] at this
    exact this
  have hc1:=hT1.ptr hs
  by_cases d1:((holderC (t.L s)).1==0)=true
  ·exact sh2a _ a1 hf1 hs hb1 hc1 hf d1 fun a2 hf2=>after true a2 hf2 fun h=>by cases h
  have d1:((holderC (t.L s)).1==0)=false:=by simpa using d1
  by_cases d2:((holderC (t.L s)).2 != (s:Int))=true
  ·exact sh2b _ a1 hf1 hs hb1 hc1 hf d1 d2 fun a2 hf2=>after true a2 hf2 fun h=>by cases h
  have d2:((holderC (t.L s)).2 != (s:Int))=false:=by simpa using d2
  by_cases d3:((holderC (t.L s)).1 != t.f s)=true
  ·exact sh2c _ a1 hf1 hs hb1 hc1 hf d1 d2 d3 fun a2 hf2=>after true a2 hf2 fun h=>by cases h
  have d3:((holderC (t.L s)).1 != t.f s)=false:=by simpa using d3
  refine sh2d _ a1 hf1 hs hb1 hc1 hf d1 d2 d3 fun a2 hf2=>after false a2 hf2 fun _=>?_
  have e1:(holderC (t.L s)).1=t.f s:=by simpa using d3
  have e2:(holderC (t.L s)).2=(s:Int):=by simpa using d2
  have e3:(holderC (t.L s)).1≠0:=by simpa using d1
  exact⟨Prod.ext e1 e2,e1▸e3⟩
 have HR:=J rest
 clear rest hT hs hT16 hI hsz
 go_enter func104,ntmps104
 conv=>arg 2;arg 2;change part [1] (codeOf shipF)
 go_wp2_with fail
 exact HR.out _ ff
end
end Go.Proofs.Ytaipgdhdfpemcaa
