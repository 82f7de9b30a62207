/- THE WALKS OF THE LANE, part 37. -/
import Derived.Test.YtaipgdhdfpemcaaF35
namespace Go.Proofs.Ytaipgdhdfpemcaa
set_option linter.all false
open Go.RowKit Go.Proofs.Try
set_option maxRecDepth 100000
set_option maxHeartbeats 4000000
section
variable {fence st:Int} {more os:List OpC} {b3 b8 c0 c2 g iq lc ln m m0 n2 pc pn xc xn:Nat} {S1 S2:Nat->Prop} {A A2 lA pA xA:O} {x:OpC} {v4 v6:Value} {w:World}
theorem run_grow_ops (ty:TypeId) (h1:OpsIs w S1 A m0 c0 os) (hm:m<=m0) (h2:OpsIs w S2 A2 n2 c2 more) (hn:0<n2) (hb:m+n2<=1000000) :
 ∃ A' c' w',(Builtin.append_ #[28,28] ty #[.slice A m m,.slice A2 n2 c2]).run prog w=.ok (.slice A' (m+n2) c') w'/\RowIs w' w.heap.size (fun b=>(S1 b\/S2 b)/\b<w\/ob A'=some b) A' (m+n2) c' (os.take m++more)/\w.grownBy w' none:=by
 obtain⟨ds,hr1,hv1,_,_⟩:=h1
 obtain⟨es,hr2,hv2,_,_⟩:=h2
 have hdl:ds.length=m0:=by have:=hr1.1;rw [opsV_len] at this;omega
 obtain⟨i0,hi,hz0,hz1,hz2⟩:=info_parts Try.infoOp
 have key:∃ v' w',(Builtin.append_ #[28,28] ty #[.slice A m m,.slice A2 n2 c2]).run prog w=.ok v' w'/\w'.ownsRow w.heap.size 45 9 v' (m+n2) (opsV (ds.take m)++opsV es)/\w.grownBy w' none:=by
  cases A with
  | none=>
   have hm0:m0=0:=by
    rcases Nat.eq_zero_or_pos m0 with h0|h0
    ·exact h0
    ·obtain⟨ad,e,_⟩:=hr1.2 h0
     cases e
   obtain rfl:m=0:=by omega
   obtain⟨v',w',q1,q2,q3,_⟩:=run_append_any (P:=prog) w w.heap.size 28 ty 45 i0 _ 9 96 underlying28 hi hz0 hz1 hz2 rfl (by omega) (.slice none 0 0) 0 [] (World.ownsRow_nil _ _ _ _) w.heap.size A2 n2 c2 (opsV es) hr2.reads (opsV_one es) (by unfold maxLen;omega) (by omega) (Nat.le_refl _)
   refine⟨v',w',q1,?_,q3⟩
   simpa [opsV] using q2
  | some b=>
   obtain⟨ad,rfl,_,_,q3⟩:=hr2.2 hn
   have holds:∀ j u,(opsV (ds.take m))[j]? = some u->w.cell? (b.add j)=some u:=by
    intro j u hu
    rw [<-opsV_take ds m (by omega)] at hu
    have hj:j<m*9:=by
     have:=(List.getElem?_eq_some_iff.1 hu).1
     rw [List.length_take] at this
     omega
    rw [List.getElem?_take,if_pos hj] at hu
    obtain⟨ad',e,_,_,p3⟩:=hr1.2 (by omega)
    injection e with e
    subst e
    exact p3 j u hu
   exact run_append_arg_grows (P:=prog) w 28 ty 45 i0 _ 9 96 underlying28 hi hz0 hz1 hz2 rfl (by omega) b m m (opsV (ds.take m)) (by rw [opsV_len,List.length_take];omega) holds ad n2 c2 (opsV es) hr2.1 q3 (by omega) (by unfold maxLen;omega) (by omega)
 obtain⟨v',w',hrun,ho,hg⟩:=key
 rw [<-opsV_append] at ho
 obtain⟨A',c',rfl,_⟩:=own_slice ho
 have hnew:∀ q,ob A'=some q->w.heap.size<=q:=fun q hq=>(ho.lt q (by rw [ownBlock_slice];exact hq)).1
 have hk:Kept (fun _=>True) w w':=⟨hg.size,fun b _ h2=>hg.block b h2 (by simp)⟩
 have fix:∀ {S:Nat->Prop} {xs:List Opd} {ys:List OpC},OpsV w S xs ys->(∀ b,S b->S1 b\/S2 b)->OpsV w' (fun b=>((S1 b\/S2 b)/\b<w\/ob A'=some b)/\some b≠ob A') xs ys:=by
  intro S xs ys hv hS
  refine ((hv.mono (S':=fun b=>(S1 b\/S2 b)/\b<w) fun b hb x=>⟨hS b x,hb⟩).kept (hk.mono fun b _ _=>trivial)).mono fun b _ x=>⟨.inl x,fun e=>?_⟩
  have:=hnew b e.symm
  omega
 exact⟨A',c',w',hrun,⟨_,ho,OpsV.append (fix (hv1.take m) fun b h=>.inl h) (fix hv2 fun b h=>.inr h),fun q hq=>.inr hq⟩,hg⟩
theorem rs21 (Q:Z) (a:Act) (hfr:Fr 220 a [(0,g),(3,b3),(4,v4),(6,v6),(7,.int .i64 (iq:Nat)),(8,b8)]) (hg:Blk w g 62 (rledC pA pn pc lA ln lc fence st)) (hb:Blk w b8 45 (oC x.n x.epoch x.kind x.site x.client x.seq x.name x.size xA xn xc)) (hx:0<=x.n/\x.n<=1000) (hQ:∀ a',Fr 220 a' [(0,g),(3,b3),(4,v4),(6,v6),(7,.int .i64 (iq:Nat)),(8,b8)]->Q .normal a' (w.drew.setCell ⟨g,3,none⟩ (.int .i64 (min st (x.n-1))))) :
 (part [1,1,1,1,1,1,0,1,0,0,1,0,0,1,1,1,1,0] (codeOf rshipFF)).wp prog Q a w:=by
 have hg':Blk w.drew g 62 (rledC pA pn pc lA ln lc fence st):=hg
 have hb':Blk w.drew b8 45 (oC x.n x.epoch x.kind x.site x.client x.seq x.name x.size xA xn xc):=hb
 have HQ:=J hQ
 have z1:IntKind.i64.wrap (x.n-1)=x.n-1:=by rw [IntKind.wrap_i64];omega
 clear hg hb hQ hx
 obtain⟨w0,hw0⟩:∃ w0,w0=w.drew:=⟨_,rfl⟩
 rw [<-hw0] at hg' hb' HQ
 obtain⟨HG,HO⟩:=J2 hg' hb'
 clear hg' hb'
 refine gg hfr fun t=>?_
 generalize w=w1 at hw0 ⊢
 have HW0:=J hw0
 clear hw0
 refine wp_region_chain kr [11] (fun i=>match i with|0=>g|1=>g|2=>g|3=>.pointer (some ⟨g,3,none⟩)|4=>st|5=>b8|6=>.int .i64 x.n|7=>.int .i64 (x.n-1)|8=>.int .i64 (min st (x.n-1))|9=>g|10=>.pointer (some ⟨g,3,none⟩)|_=>undef) (OneS w0 (w0.setCell ⟨g,3,none⟩ (.int .i64 (min st (x.n-1))))) (fun _ _=>true) kr kr kr kr ?hS ?hfree ?hlink ?hend
 case hS=>exact HW0.out.symm
 case hfree=>
  intro i o F U vs W ho hni hS hlen hlim hat hoff hd
  have e0:=oo 0 g
  have t0:=act_tmp e0
  have e8:=oo 8 b8
  have t8:=act_tmp e8
  obtain⟨qa,qb⟩:=J2 hat hd
  clear hat hoff hd
  match i with
  | 0|1|5=>
   exact Y51
  | 2=>
   cases ho
   have t161:=act_tmp (fev qa qb 1 161)
   exact vl ⟨rfl,rfl⟩
  | 3=>
   cases ho
   have t162:=act_tmp (fev qa qb 2 162)
   exact vl ⟨rfl,rfl⟩
  | 4=>
   cases ho
   have t163:=act_tmp (fev qa qb 3 163)
   obtain rfl:=hS.nil_ (hlim 0 11 rfl rfl)
   have d0:=HG.out.c1 3
   exact vl ⟨rfl,rfl⟩
  | 6=>
   cases ho
   have t165:=act_tmp (fev qa qb 5 165)
   obtain rfl:=hS.nil_ (hlim 0 11 rfl rfl)
   have d0:=HO.out.c1 0
   exact vl ⟨rfl,rfl⟩
  | 7=>
   cases ho
   have t166:=act_tmp (fev qa qb 6 166)
   exact Y21
  | 8=>
   cases ho
   have t164:=act_tmp (fev qa qb 4 164)
   have t167:=act_tmp (fev qa qb 7 167)
   exact wp_value' (.int .i64 (min st (x.n-1))) W (by unfold execOp;go_simp;all_goals first|omega|exact IntWalk.i64_in _ (by omega)) ⟨rfl,rfl⟩
  | 9=>
   cases ho
   have t160:=act_tmp (fev qa qb 0 160)
   exact vl ⟨rfl,rfl⟩
  | 10=>
   cases ho
   have t169:=act_tmp (fev qa qb 9 169)
   exact vl ⟨rfl,rfl⟩
  | 11=>
   exact Y76
  | i+12=>exact absurd ho (by simp)
 case hlink=>
  intro k i o F U vs W hk ho hS hvl hat hoff hd
  have:=ot 0 g
  have:=ot 8 b8
  obtain⟨qa,qb⟩:=J2 hat hd
  clear hat hoff hd
  match k with
  | 0=>
   cases hk;cases ho;obtain rfl:=List.eq_nil_of_length_eq_zero hvl;have e170:=fev qa qb 10 170;have t170:=act_tmp e170;have e168:=fev qa qb 8 168;have t168:=act_tmp e168;obtain rfl:=hS;have d8:=HG.out.c1 3;have f8:=HG.out.frozen 3
   exact wp_skip' (W.setCell ⟨g,3,none⟩ (.int .i64 (min st (x.n-1)))) (by unfold execOp;go_simp) ⟨_,rfl,rfl⟩
  | k+1=>exact absurd hk (by simp)
 case hend=>
  exact Y33
end
def GrS (w:World) (X:Nat->Prop) (n m:Nat) (os more:List OpC) (R:World->Prop):List Value->World->Prop
 | [],W=>W=w
 | [u],W=>∃ A' c',u=.slice A' n c'/\OpsIs W (From w.heap.size) A' n c' more/\Below w w W
 | [_,u],W=>∃ A' c',u=.slice A' (m+n) c'/\RowIs W w.heap.size (New X w W) A' (m+n) c' (os.take m++more)/\Below w w W
 | [_,_,_],W=>R W
 | _,_=>False
section
variable {qad:Addr} {after epoch fence kind since site st tag:Int} {more os:List OpC} {vs:List Value} {B b3 b8 g hc hn iq lc ln m n pc pn qc qn xc xn:Nat} {SS X:Nat->Prop} {hA lA pA xA:O} {o x:OpC} {v4 v6:Value} {W w:World} {R:World->Prop}
section
variable (h:GrS w X n m os more R vs W)
include h
theorem GrS.nil_ (hl:vs.length<=0):W=w:=by
 exact Y158
theorem GrS.low (hl:vs.length<=2):Below w w W:=by
 rcases vs with _|⟨u,_|⟨v,_|⟨x,l⟩⟩⟩
 ·obtain rfl:=h;exact Below.refl _ _
 ·obtain⟨_,_,_,_,h⟩:=h;exact h
 ·obtain⟨_,_,_,_,h⟩:=h;exact h
 ·simp at hl
end
theorem rs22 (Q:Z) (a:Act) (hfr:Fr 220 a [(0,g),(3,b3),(4,v4),(6,v6),(7,.int .i64 (iq:Nat)),(8,b8)]) (h:RLed w B X g os pA pn pc lA ln lc fence st) (h8:Blk w b8 45 (oC x.n x.epoch x.kind x.site x.client x.seq x.name x.size xA xn xc)) (h3:Blk w b3 47 (cmdC kind epoch site o hA hn hc after since (some qad) qn qc tag)) (hm:OpsIs w SS (some (qad.add (iq*9))) (qn-iq) (qc-iq) more) (hok:∀ x∈more,x.Ok) (hx:x.n=(m:Int)+1) (hmp:m<=pn) (hi:iq<qn) (hq:qn<=qc) (hqc:qc<=maxLen) (hb:m+qn<=10000) (hB:B<=w) (hQ:∀ a' W,Fr 220 a' [(0,g),(3,b3),(4,v4),(6,v6)]->(∃ A' c' X',RLed W B X' g (os.take m++more) A' (m+(qn-iq)) c' lA ln lc fence st/\Kept (fun b=>¬ X b/\b≠g) w W/\Below B w W/\∀ b,X' b->X b\/w.heap.size<=b)->Q .normal a' W) :
 (part [1,1,1,1,1,1,0,1,0,0,1,0,0,1,1,1,1,1,0] (codeOf rshipFF)).wp prog Q a w:=by
 have hcap:pn<=pc/\pc<=maxLen:=by obtain⟨_,_,_,h1,h2⟩:=h.row.opsIs;exact⟨h1,h2⟩
 have hd:RLed w.drew B X g os pA pn pc lA ln lc fence st:=h.keep ⟨Nat.le_refl _,fun _ _ _=>rfl⟩
 have h8':Blk w.drew b8 45 (oC x.n x.epoch x.kind x.site x.client x.seq x.name x.size xA xn xc):=h8
 have h3':Blk w.drew b3 47 (cmdC kind epoch site o hA hn hc after since (some qad) qn qc tag):=h3
 have hm':OpsIs w.drew SS (some (qad.add (iq*9))) (qn-iq) (qc-iq) more:=hm.below ⟨rfl,rfl,rfl,Nat.le_refl _,fun _ _=>rfl⟩
 have hB':B<=w.drew.heap.size:=hB
 have HQ:=J (show ∀ a' W,Fr 220 a' [(0,g),(3,b3),(4,v4),(6,v6)]->(∃ A' c' X',RLed W B X' g (os.take m++more) A' (m+(qn-iq)) c' lA ln lc fence st/\Kept (fun b=>¬ X b/\b≠g) w.drew W/\Below B w.drew W/\∀ b,X' b->X b\/w.drew.heap.size<=b)->Q .normal a' W from fun a' W hf hh=>hQ a' W hf (by obtain⟨A',c',X',h1,h2,h3,h4⟩:=hh;exact⟨A',c',X',h1,h2,⟨h3.os,h3.tape,h3.output,h3.size,h3.block⟩,h4⟩))
 clear h h8 h3 hm hB hQ
 obtain⟨w0,hw0⟩:∃ w0,w0=w.drew:=⟨_,rfl⟩
 rw [<-hw0] at hd h8' h3' hm' hB' HQ
 obtain⟨HL,HX8,HC,HM,HB,HOK,HMP⟩:=J7 hd h8' h3' hm' hB' hok hmp
 have HN:=J (And.intro hi hb)
 have z1:IntKind.i64.wrap (x.n-1)=(m:Nat):=by rw [IntKind.wrap_i64];omega
 have z2:(0:Int)<=(m:Nat):=by omega
 have z3:((m:Nat):Int)<=((pc:Nat):Int):=by omega
 have z4:((pc:Nat):Int)<=9223372036854775807:=by have:=hcap.2;unfold maxLen at this;omega
 have y1:(0:Int)<=(iq:Nat):=by omega
 have y2:((iq:Nat):Int)<=((qn:Nat):Int):=by omega
 have y3:((iq:Nat):Int)<=((qc:Nat):Int):=by omega
 have y5:((qn:Nat):Int)<=((qc:Nat):Int):=by omega
 have y4:((qc:Nat):Int)<=9223372036854775807:=by unfold maxLen at hqc;omega
 have q1:¬ qc=iq:=by omega
 have q2:¬ qc-iq=0:=by omega
 clear hd h8' h3' hm' hB' hok hmp hi hq hqc hb hcap hx
 refine gg hfr fun t=>?_
 generalize w=w1 at hw0 ⊢
 have HW0:=J hw0
 clear hw0
 refine wp_region_chain kr [16,17,20] (fun i=>match i with|0=>g|1=>g|2=>g|3=>g|4=>.slice pA pn pc|5=>b8|6=>.int .i64 x.n|7=>.int .i64 (m:Nat)|8=>b8|9=>.int .i64 x.n|10=>.int .i64 (m:Nat)|11=>.slice pA m m|12=>.pointer (some ⟨b3,14,none⟩)|13=>.slice (some qad) qn qc|14=>.int .i64 (iq:Nat)|15=>.slice (some (qad.add (iq*9))) (qn-iq) (qc-iq)|18=>g|19=>g|_=>undef) (GrS w0 X (qn-iq) m os more (fun W=>∃ A' c' X',RLed W B X' g (os.take m++more) A' (m+(qn-iq)) c' lA ln lc fence st/\Kept (fun b=>¬ X b/\b≠g) w0 W/\Below B w0 W/\∀ b,X' b->X b\/w0.heap.size<=b)) (fun s _=>s==20) kr kr kr kr ?hS ?hfree ?hlink ?hend
 case hS=>exact HW0.out.symm
 case hfree=>
  intro i o F U vs W ho hni hS hlen hlim hat hoff hd
  have e0:=oo 0 g
  have t0:=act_tmp e0
  have e3:=oo 3 b3
  have t3:=act_tmp e3
  have e7:=oo 7 (.int .i64 (iq:Nat))
  have t7:=act_tmp e7
  have e8:=oo 8 b8
  have t8:=act_tmp e8
  obtain⟨qa,qb⟩:=J2 hat hd
  clear hat hoff hd
  match i with
  | 0|1|5|8|12|14=>
   exact Y51
  | 2=>
   cases ho
   have t172:=act_tmp (fev qa qb 1 172)
   exact vl ⟨rfl,rfl⟩
  | 3=>
   cases ho
   have t173:=act_tmp (fev qa qb 2 173)
   exact vl ⟨rfl,rfl⟩
  | 4=>
   cases ho
   have t174:=act_tmp (fev qa qb 3 174)
   have hsm:=hS.low (hlim 2 20 rfl rfl)
   exact Y202
  | 6=>
   cases ho
   have t176:=act_tmp (fev qa qb 5 176)
   exact Y161
  | 7=>
   cases ho
   have t177:=act_tmp (fev qa qb 6 177)
   exact Y21
  | 9=>
   cases ho
   have t179:=act_tmp (fev qa qb 8 179)
   exact Y161
  | 10=>
   cases ho
   have t180:=act_tmp (fev qa qb 9 180)
   exact Y21
  | 11=>
   cases ho
   have t175:=act_tmp (fev qa qb 4 175)
   have t178:=act_tmp (fev qa qb 7 178)
   have t181:=act_tmp (fev qa qb 10 181)
   exact Y21
  | 13=>
   cases ho
   have t183:=act_tmp (fev qa qb 12 183)
   have hsm:=hS.low (hlim 2 20 rfl rfl)
   have hc:=HC.out.below hsm HC.out.lt
   have d0:=hc.c1 14
   exact vl ⟨rfl,rfl⟩
  | 15=>
   cases ho
   have t184:=act_tmp (fev qa qb 13 184)
   have t185:=act_tmp (fev qa qb 14 185)
   exact Y21
  | 16|17|20=>
   exact Y76
  | 18=>
   cases ho
   have t171:=act_tmp (fev qa qb 0 171)
   exact vl ⟨rfl,rfl⟩
  | 19=>
   cases ho
   have t189:=act_tmp (fev qa qb 18 189)
   exact vl ⟨rfl,rfl⟩
  | i+21=>exact absurd ho (by simp)
 case hlink=>
  intro k i o F U vs W hk ho hS hvl hat hoff hd
  have:=ot 0 g
  have:=ot 3 b3
  have:=ot 7 (.int .i64 (iq:Nat))
  have:=ot 8 b8
  obtain⟨qa,qb⟩:=J2 hat hd
  clear hat hoff hd
  match k with
  | 0=>
   cases hk;cases ho;obtain rfl:=List.eq_nil_of_length_eq_zero hvl;have e186:=fev qa qb 15 186;have t186:=act_tmp e186;obtain rfl:=hS
   refine wp_enter' 34 #[.slice (some (qad.add (iq*9))) (qn-iq) (qc-iq)] (by unfold execOp;go_simp) ?_
   refine (ownOps_any _ (qn-iq) (qc-iq) _ W HM.out (by have:=HN.out;omega) HOK.out).mono ?_
   rintro e W' ⟨A',c',rfl,h1,h2⟩
   exact⟨_,rfl,_,rfl,A',c',rfl,h1,h2⟩
  | 1=>
   cases hk;cases ho;obtain⟨u0,rfl⟩:=ln1 hvl;have e182:=fev qa qb 11 182;have t182:=act_tmp e182;have e187:=cev qa qb 16 187;have t187:=act_tmp e187;obtain⟨A',c',rfl,h1,h2⟩:=hS;have hL:=HL.out.below h2
   obtain⟨A2,c2,w',hrun,r1,r2⟩:=run_grow_ops 28 hL.row.opsIs HMP.out h1 (by have:=HN.out;omega) (by have:=HN.out;omega)
   have hb2:Below w0 w0 w':=h2.grown r2 h2.size (by intro q hq;cases hq)
   refine wp_value' (.slice A2 (m+(qn-iq)) c2) w' (by unfold execOp;simp [resolve,invoke,builtin,e182,e187,hrun,Result.andThen]) ⟨_,rfl,A2,c2,rfl,?_,hb2⟩
   obtain⟨ds,q1,q2,q3⟩:=r1.mono (S':=New X w0 w') fun b hb hx=>by
    rcases hx with ⟨hx|hx,hlt⟩|hx
    ·exact .inl hx
    ·exact .inr ⟨hx,hb⟩
    ·exact .inr ⟨by have:=(r1.lt b hx).1;have:=h2.size;omega,hb⟩
   exact⟨ds,ownsRow_low q1 h2.size,q2,q3⟩
  | 2=>
   cases hk;cases ho;obtain⟨u0,u1,rfl⟩:=ln2 hvl;have e190:=fev qa qb 19 190;have t190:=act_tmp e190;have e188:=cev qa qb 17 188;have t188:=act_tmp e188;obtain⟨A',c',hu,h1,h2⟩:=hS;rw [hu] at e188;have t188:=act_tmp e188;have hg:=HL.out.blk.below h2 HL.out.blk.lt;have f5:W.frozen? ⟨g,0,none⟩=false:=Blk.frozen hg 0;have d5:=Blk.cell hg 0;simp at d5;obtain⟨ds,q1,q2,q3⟩:=h1;obtain⟨p1,p2,p3⟩:=HL.out.row_ (A':=A') (n':=m+(qn-iq)) (c':=c') ⟨ds,ownsRow_low q1 HB.out,q2,q3⟩ (Kept.of _ h2) (h2.mono HB.out) HB.out
   exact wp_skip' (W.setCell ⟨g,0,none⟩ (.slice A' (m+(qn-iq)) c')) (by unfold execOp;go_simp) ⟨_,rfl,A',c',_,p1,p2,p3,fun b hb=>Or.imp id (fun h=>h.1) (show New X w0 W b from hb)⟩
  | k+3=>exact absurd hk (by simp)
 case hend=>
  exact Y216
end
@[reducible] noncomputable def rlastFF:Func:=Try.f52
theorem rlast3 {w:World} {g b2 m pc:Nat} {cs:Array Value} {ad:Addr} {o:OpC} {oA:O} {on oc:Nat} (Q:Z) (a:Act) (hfr:Fr 28 a [(0,g),(2,b2)])
 (hg:Blk w g 62 cs) (h5:cs[0]? = some (.slice (some ad) (m+1) pc)) (hab:(ad.add (m*9)).block<w) (hop:OpAt w (ad.add (m*9)) (o.at_ oA on oc)) (hm:m<=1000)
 (hQ:∀ a' W,Fr 28 a' [(0,g),(2,b2),(3,(w:Nat))]->Blk W w 45 (oC o.n o.epoch o.kind o.site o.client o.seq o.name o.size oA on oc)->Below w w W->Q .normal a' W) :
 (part [1,1,0] (codeOf rlastFF)).wp prog Q a w:=by
 have hg':Blk w.drew g 62 cs:=hg
 have hop':OpAt w.drew (ad.add (m*9)) (o.at_ oA on oc):=hop
 have hab':(ad.add (m*9)).block<w.drew.heap.size:=hab
 have HQ:=J (show ∀ a' W,Fr 28 a' [(0,g),(2,b2),(3,(w.drew.heap.size:Nat))]->Blk W w.drew.heap.size 45 (oC o.n o.epoch o.kind o.site o.client o.seq o.name o.size oA on oc)->Below w.drew.heap.size w.drew W->Q .normal a' W from fun a' W hf h1 h3=>hQ a' W hf h1 ⟨h3.os,h3.tape,h3.output,h3.size,h3.block⟩)
 clear hg hop hab hQ
 obtain⟨w0,hw0⟩:∃ w0,w0=w.drew:=⟨_,rfl⟩
 rw [<-hw0] at hg' hop' hab' HQ
 obtain⟨HG,HP,HAB,H5⟩:=J4 hg' hop' hab' h5
 have z1:IntKind.i64.wrap (((m:Int)+1)-1)=(m:Nat):=by rw [IntKind.wrap_i64];omega
 have z2:(0:Int)<=(m:Nat):=by omega
 have z3:((m:Nat):Int)<((m+1:Nat):Int):=by omega
 clear hg' hop' hab' h5
 refine gg hfr fun t=>?_
 generalize w=w1 at hw0 ⊢
 have HW0:=J hw0
 clear hw0
 refine wp_region_chain kr [12,13] (fun i=>match i with|0=>g|1=>g|2=>g|3=>.slice (some ad) (m+1) pc|4=>g|5=>g|6=>g|7=>.slice (some ad) (m+1) pc|8=>.int .i64 ((m:Int)+1)|9=>.int .i64 (m:Nat)|10=>.pointer (some (ad.add (m*9)))|11=>.agg #[.int .i64 o.n,o.epoch,o.kind,o.site,o.client,o.seq,.string o.name,o.size,.slice oA on oc]|_=>undef) (AlS w0 (#[.int .i64 0,.int .i64 0,.int .i64 0,.int .i64 0,.int .i64 0,.int .i64 0,.string ⟨#[]⟩,.int .i64 0,.slice none 0 0]) 45 (fun W=>Blk W w0 45 (oC o.n o.epoch o.kind o.site o.client o.seq o.name o.size oA on oc))) (fun _ _=>false) kr kr kr kr ?hS ?hfree ?hlink ?hend
 case hS=>exact HW0.out.symm
 case hfree=>
  intro i o F U vs W ho hni hS hlen hlim hat hoff hd
  have e0:=oo 0 g
  have t0:=act_tmp e0
  obtain⟨qa,qb⟩:=J2 hat hd
  clear hat hoff hd
  match i with
  | 0|4=>
   exact Y51
  | 1=>
   cases ho
   have t11:=act_tmp (fev qa qb 0 11)
   exact vl ⟨rfl,rfl⟩
  | 2=>
   cases ho
   have t12:=act_tmp (fev qa qb 1 12)
   exact vl ⟨rfl,rfl⟩
  | 3=>
   cases ho
   have t13:=act_tmp (fev qa qb 2 13)
   exact Y160
  | 5=>
   cases ho
   have t15:=act_tmp (fev qa qb 4 15)
   exact vl ⟨rfl,rfl⟩
  | 6=>
   cases ho
   have t16:=act_tmp (fev qa qb 5 16)
   exact vl ⟨rfl,rfl⟩
  | 7=>
   cases ho
   have t17:=act_tmp (fev qa qb 6 17)
   exact Y160
  | 8=>
   cases ho
   have t18:=act_tmp (fev qa qb 7 18)
   exact vl ⟨rfl,rfl⟩
  | 9=>
   cases ho
   have t19:=act_tmp (fev qa qb 8 19)
   exact Y21
  | 10=>
   cases ho
   have t14:=act_tmp (fev qa qb 3 14)
   have t20:=act_tmp (fev qa qb 9 20)
   exact Y21
  | 11=>
   cases ho
   have t21:=act_tmp (fev qa qb 10 21)
   have hsm:=hS.low
   exact Y142
  | 12|13=>
   exact Y76
  | i+14=>exact absurd ho (by simp)
 case hlink=>
  intro k i o F U vs W hk ho hS hvl hat hoff hd
  have:=ot 0 g
  obtain⟨qa,qb⟩:=J2 hat hd
  clear hat hoff hd
  match k with
  | 0=>
   exact Y64
  | 1=>
   cases hk;cases ho;obtain⟨u0,rfl⟩:=ln1 hvl;have e3:=cev qa qb 12 3;have t3:=act_tmp e3;have e22:=fev qa qb 11 22;have t22:=act_tmp e22;obtain⟨rfl,rfl⟩:=hS;have hn:=Blk.new w0 45 (#[.int .i64 0,.int .i64 0,.int .i64 0,.int .i64 0,.int .i64 0,.int .i64 0,.string ⟨#[]⟩,.int .i64 0,.slice none 0 0]);obtain⟨c0,c1,c2,c3,c4,c5,c6,c7,c8⟩:=hn.cs 0 9;have f0:=hn.frozen
   exact wp_skip' (w0.alloc (.cells (oC o.n o.epoch o.kind o.site o.client o.seq o.name o.size oA on oc) 45)) (by unfold execOp;go_simp) ⟨_,rfl,rfl,Blk.new w0 45 (oC o.n o.epoch o.kind o.site o.client o.seq o.name o.size oA on oc),(Below.refl _ _).alloc (Nat.le_refl _) _⟩
  | k+2=>exact absurd hk (by simp)
 case hend=>
  intro U vs W hS hvl hfr hch
  obtain⟨x0,x1,rfl⟩:=ln2 hvl
  obtain⟨r1,r2,r3⟩:=hS
  have q0:U 12=.pointer (some ⟨w0.heap.size,0,none⟩):=by
   have:=hch 0 12 rfl
   simp at this
   rw [<-this,r1]
  have HR:=J (And.intro r2 r3)
  have H0:=J q0
  clear hfr hch r1 r2 r3 q0
  simp [putU,dstAt,Act.put]
  exact HQ.out _ _ ⟨rfl,rfl,rfl,rfl,H0.out,trivial⟩ HR.out.1 HR.out.2
section
variable {cs:Array Value} {os:List OpC} {b2 b3 c g n oc on:Nat} {S:Nat->Prop} {A oA:O} {o:OpC} {v0:Value} {w:World}
theorem rlast4 (G:Ending->World->Prop) (a:Act) (hfr:Fr 28 a [(0,v0),(2,b2),(3,b3)]) (h3:Blk w b3 45 (oC o.n o.epoch o.kind o.site o.client o.seq o.name o.size oA on oc)) (hb:Blk w b2 26 #[.int .i64 0,.int .i64 0]) (hG:∀ W,Below b2 w W->G (.returned (.agg #[.int .i64 o.n,o.epoch])) W) :
 (part [1,1,1] (codeOf rlastFF)).wp prog (bodyPost prog rlastFF G) a w:=by
 obtain⟨o0,o1⟩:=h3.cs 0 2
 obtain⟨y0,y1⟩:=hb.cs 0 2
 have f0:=hb.frozen
 have hfin:=(hb.set_ 0 (.int .i64 o.n)).set_ 1 (.int .i64 o.epoch)
 obtain⟨z0,z1⟩:=hfin.cs 0 2
 have hl:Below b2 w ((w.setCell ⟨b2,0,none⟩ (.int .i64 o.n)).setCell ⟨b2,1,none⟩ (.int .i64 o.epoch)):=((Below.refl _ _).setCell (p:=⟨b2,0,none⟩) (Nat.le_refl _) _).setCell (p:=⟨b2,1,none⟩) (Nat.le_refl _) _
 obtain⟨HL,HG⟩:=J2 hl hG
 obtain⟨W,hW⟩:∃ W,W=(w.setCell ⟨b2,0,none⟩ (.int .i64 o.n)).setCell ⟨b2,1,none⟩ (.int .i64 o.epoch):=⟨_,rfl⟩
 rw [<-hW] at z0 z1 HL
 have HWW:=J hW
 clear hb hG h3 hfin hl hW
 refine gg hfr fun t=>?_
 go_wp2
 rw [<-HWW.out]
 refine bodyPost_ret (v:=.agg #[.int .i64 o.n,o.epoch]) (by simp [results,results52,z0,z1,go_sem]) rfl ?_
 exact HG.out _ HL.out
theorem rlast_any (hg:Blk w g 62 cs) (h5:cs[0]? = some (.slice A n c)) (ho:OpsIs w S A n c os) (hn:n<=1000) :
 Calls prog 52 #[.pointer (some ⟨g,0,none⟩)] w fun x w'=>(∃ u v,x=.returned (.agg #[.int .i64 u,.int .i64 v]))/\Below w w w':=by
 have hgl:=hg.lt
 obtain⟨w1,hw1⟩:∃ w1,w1=w.alloc (.cells #[.int .i64 0,.int .i64 0] 26):=⟨_,rfl⟩
 have hb1:Below w w w1:=by rw [hw1];exact (Below.refl _ _).alloc (Nat.le_refl _) _
 have hn1:Blk w1 w 26 #[.int .i64 0,.int .i64 0]:=by rw [hw1];exact Blk.new _ _ _
 have hg1:=hg.below hb1 hgl
 have ho1:=ho.below hb1
 have c5:=hg1.cell 0
 rw [h5,hw1] at c5
 rcases Nat.eq_zero_or_pos n with h0|h0
 ·have d1:((n:Int)==0)=true:=beq_iff_eq.2 (by omega)
  have d2:(n==0)=true:=beq_iff_eq.2 h0
  clear hg h5 ho hn hw1 hb1 hn1 hg1 ho1 h0
  go_enter func52,ntmps52
  conv=>arg 2;arg 2;arg 2;change part [1,1] (codeOf rlastFF)
  go_wp2
  refine bodyPost_ret (v:=.agg #[.int .i64 0,.int .i64 0]) (by simp [results,results52,go_sem]) rfl ?_
  exact⟨⟨_,_,rfl⟩,(Below.refl _ _).alloc (Nat.le_refl _) _⟩
 ·obtain⟨m,rfl⟩:∃ m,n=m+1:=⟨n-1,by omega⟩
  obtain⟨ad,o,oA,on,oc,rfl,hab,hck,hop,hss⟩:=ho1.at_ (k:=m) (by omega)
  have d1:(((m+1:Nat):Int)==0)=false:=beq_eq_false_iff_ne.2 (by omega)
  have d2:(m+1==0)=false:=beq_eq_false_iff_ne.2 (by omega)
  have d3:((m:Int)+1==0)=false:=beq_eq_false_iff_ne.2 (by omega)
  have rest:∀ a,Fr 28 a [(0,g),(2,(w:Nat))]->(part [1,1] (codeOf rlastFF)).wp prog (bodyPost prog rlastFF fun x w'=>(∃ u v,x=.returned (.agg #[.int .i64 u,.int .i64 v]))/\Below w w w') a w1:=by
   intro a hfr
   refine Ytaipgdhdfpemcaa.w2 ?_
   refine rlast3 _ a hfr hg1 h5 hab hop (by omega) fun a2 w2 hf2 h3 hb2=>?_
   exact rlast4 _ a2 hf2 h3 (hn1.below hb2 hn1.lt) fun W hl=>⟨⟨_,_,rfl⟩,(hb1.trans (hb2.mono (by have:=hn1.lt;omega))).trans hl⟩
  obtain⟨HR,HW⟩:=J2 rest hw1
  clear rest hg h5 ho hn hw1 hb1 hn1 hg1 ho1 h0 hab hck hop hss
  go_enter func52,ntmps52
  conv=>arg 2;arg 2;arg 2;change part [1,1] (codeOf rlastFF)
  exact Y164
end
end Go.Proofs.Ytaipgdhdfpemcaa
