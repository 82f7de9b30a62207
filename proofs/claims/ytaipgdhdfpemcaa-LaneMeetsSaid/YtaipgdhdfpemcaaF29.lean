/- THE WALKS OF THE LANE, part 29. -/
import Derived.Test.YtaipgdhdfpemcaaF26
import Derived.Test.YtaipgdhdfpemcaaF27
namespace Go.Proofs.Ytaipgdhdfpemcaa
set_option linter.all false
open Go.RowKit Go.Proofs.Try
set_option maxRecDepth 100000
set_option maxHeartbeats 4000000
@[reducible] noncomputable def lastFF:Func:=Try.f30
def LastS (w:World) (v:Value) (R:World->Prop):List Value->World->Prop
 | [],W=>W=w
 | [u],W=>u=v/\Below w w W
 | [_,_],W=>R W
 | _,_=>False
section
variable {ad:Addr} {cs:Array Value} {x y:Int} {os:List OpC} {vs:List Value} {b2 c g m n oc on pc:Nat} {S:Nat->Prop} {A oA:O} {o:OpC} {v v0:Value} {W w:World} {R:World->Prop}
theorem LastS.nil_ (h:LastS w v R vs W) (hl:vs.length<=0):W=w:=by
 exact Y158
theorem last3 (Q:Z) (a:Act) (hfr:Fr 27 a [(0,g),(2,b2)]) (hg:Blk w g 98 cs) (h5:cs[5]? = some (.slice (some ad) (m+1) pc)) (hop:OpAt w (ad.add (m*9)) (o.at_ oA on oc)) (hm:m<=1000) (hb2:Blk w b2 26 #[.int .i64 0,.int .i64 0]) (hQ:∀ a' W,Fr 27 a' [(0,g),(2,b2)]->(Blk W b2 26 #[.int .i64 o.n,o.epoch]/\Below b2 w W)->Q .normal a' W) :
 (part [1,1,0] (codeOf lastFF)).wp prog Q a w:=by
 have hg':Blk w.drew g 98 cs:=hg
 have hb':Blk w.drew b2 26 #[.int .i64 0,.int .i64 0]:=hb2
 have hop':OpAt w.drew (ad.add (m*9)) (o.at_ oA on oc):=hop
 have HQ:=J (show ∀ a' W,Fr 27 a' [(0,g),(2,b2)]->(Blk W b2 26 #[.int .i64 o.n,o.epoch]/\Below b2 w.drew W)->Q .normal a' W from fun a' W hf hh=>hQ a' W hf (by obtain⟨h1,h3⟩:=hh;exact⟨h1,⟨h3.os,h3.tape,h3.output,h3.size,h3.block⟩⟩))
 clear hg hb2 hop hQ
 obtain⟨w0,hw0⟩:∃ w0,w0=w.drew:=⟨_,rfl⟩
 rw [<-hw0] at hg' hb' hop' HQ
 obtain⟨HG,HB2,HP,H5⟩:=J4 hg' hb' hop' h5
 have z1:IntKind.i64.wrap (((m:Int)+1)-1)=(m:Nat):=by rw [IntKind.wrap_i64];omega
 have z2:(0:Int)<=(m:Nat):=by omega
 have z3:((m:Nat):Int)<((m+1:Nat):Int):=by omega
 clear hg' hb' hop' h5
 refine gg hfr fun t=>?_
 generalize w=w1 at hw0 ⊢
 have HW0:=J hw0
 clear hw0
 refine wp_region_chain kr [12,13] (fun i=>match i with|0=>g|1=>g|2=>.pointer (some ⟨g,5,none⟩)|3=>.slice (some ad) (m+1) pc|4=>g|5=>g|6=>.pointer (some ⟨g,5,none⟩)|7=>.slice (some ad) (m+1) pc|8=>.int .i64 ((m:Int)+1)|9=>.int .i64 (m:Nat)|10=>.pointer (some (ad.add (m*9)))|11=>.agg #[.int .i64 o.n,o.epoch,o.kind,o.site,o.client,o.seq,.string o.name,o.size,.slice oA on oc]|_=>undef) (LastS w0 (.agg #[.int .i64 o.n,o.epoch]) (fun W=>Blk W b2 26 #[.int .i64 o.n,o.epoch]/\Below b2 w0 W)) (fun s i=>s==12&&decide (i<=12)) kr kr kr kr ?hS ?hfree ?hlink ?hend
 case hS=>exact HW0.out.symm
 case hfree=>
  intro i o F U vs W ho hni hS hlen hlim hat hoff hd
  have e0:=oo 0 g
  have t0:=act_tmp e0
  have e2:=oo 2 b2
  have t2:=act_tmp e2
  obtain⟨qa,qb⟩:=J2 hat hd
  clear hat hoff hd
  match i with
  | 0|4=>
   exact Y51
  | 1=>
   cases ho
   have t14:=act_tmp (fev qa qb 0 14)
   exact vl ⟨rfl,rfl⟩
  | 2=>
   cases ho
   have t15:=act_tmp (fev qa qb 1 15)
   exact vl ⟨rfl,rfl⟩
  | 3=>
   cases ho
   have t16:=act_tmp (fev qa qb 2 16)
   exact Y174
  | 5=>
   cases ho
   have t18:=act_tmp (fev qa qb 4 18)
   exact vl ⟨rfl,rfl⟩
  | 6=>
   cases ho
   have t19:=act_tmp (fev qa qb 5 19)
   exact vl ⟨rfl,rfl⟩
  | 7=>
   cases ho
   have t20:=act_tmp (fev qa qb 6 20)
   exact Y174
  | 8=>
   cases ho
   have t21:=act_tmp (fev qa qb 7 21)
   exact vl ⟨rfl,rfl⟩
  | 9=>
   cases ho
   have t22:=act_tmp (fev qa qb 8 22)
   exact Y21
  | 10=>
   cases ho
   have t17:=act_tmp (fev qa qb 3 17)
   have t23:=act_tmp (fev qa qb 9 23)
   exact Y21
  | 11=>
   cases ho
   have t24:=act_tmp (fev qa qb 10 24)
   obtain rfl:=hS.nil_ (hlim 0 12 rfl rfl)
   obtain⟨k0,k1,k2,k3,k4,k5,k6,k7,k8⟩:=HP.out
   simp only [OpC.at_] at k0 k1 k2 k3 k4 k5 k6 k7 k8
   exact vl ⟨rfl,rfl⟩
  | 12|13=>
   exact Y76
  | i+14=>exact absurd ho (by simp)
 case hlink=>
  intro k i o F U vs W hk ho hS hvl hat hoff hd
  have:=ot 0 g
  have:=ot 2 b2
  obtain⟨qa,qb⟩:=J2 hat hd
  clear hat hoff hd
  match k with
  | 0=>
   cases hk;cases ho;obtain rfl:=List.eq_nil_of_length_eq_zero hvl;have e25:=fev qa qb 11 25;have t25:=act_tmp e25;obtain rfl:=hS
   refine wp_enter' 80 #[.agg #[.int .i64 o.n,o.epoch,o.kind,o.site,o.client,o.seq,.string o.name,o.size,.slice oA on oc]] (by unfold execOp;go_simp) ?_
   refine (spotLed_any _ _ _ _ _ _ _ _ _ _).mono ?_
   rintro e W' ⟨rfl,hb⟩
   exact⟨_,rfl,_,rfl,rfl,hb⟩
  | 1=>
   cases hk;cases ho;obtain⟨u0,rfl⟩:=ln1 hvl;have e26:=cev qa qb 12 26;have t26:=act_tmp e26;obtain⟨hu,hb⟩:=hS;rw [hu] at e26;have t26:=act_tmp e26;have h2:=HB2.out.below hb HB2.out.lt;obtain⟨c0,c1⟩:=h2.cs 0 2;have f0:=h2.frozen
   refine wp_skip' ((W.setCell ⟨b2,0,none⟩ (.int .i64 o.n)).setCell ⟨b2,1,none⟩ (.int .i64 o.epoch)) (by unfold execOp;go_simp) ⟨_,rfl,(h2.set_ 0 _).set_ 1 _,((hb.mono (Nat.le_of_lt HB2.out.lt)).setCell (p:=⟨b2,0,none⟩) (Nat.le_refl _) _).setCell (p:=⟨b2,1,none⟩) (Nat.le_refl _) _⟩
  | k+2=>exact absurd hk (by simp)
 case hend=>
  intro U vs W hS hvl hfr hch
  obtain⟨x0,x1,rfl⟩:=ln2 hvl
  exact Y32
theorem last4 (G:Ending->World->Prop) (a:Act) (hfr:Fr 27 a [(0,v0),(2,b2)]) (hb:Blk w b2 26 #[x,y]) (hG:G (.returned (.agg #[x,y])) w) :
 (part [1,1,1] (codeOf lastFF)).wp prog (bodyPost prog lastFF G) a w:=by
 obtain⟨z0,z1⟩:=hb.cs 0 2
 have HG:=J hG
 clear hb hG
 refine gg hfr fun t=>?_
 go_wp2
 refine bodyPost_ret (v:=.agg #[x,y]) (by simp [results,results30,z0,z1,go_sem]) rfl ?_
 exact HG.out
theorem lastLed_any (hg:Blk w g 98 cs) (h5:cs[5]? = some (.slice A n c)) (ho:OpsIs w S A n c os) (hn:n<=1000) :
 Calls prog 30 #[.pointer (some ⟨g,0,none⟩)] w fun x w'=>(∃ u v,x=.returned (.agg #[.int .i64 u,.int .i64 v]))/\Below w w w':=by
 have hgl:=hg.lt
 obtain⟨w1,hw1⟩:∃ w1,w1=w.alloc (.cells #[.int .i64 0,.int .i64 0] 26):=⟨_,rfl⟩
 have hb1:Below w w w1:=by rw [hw1];exact (Below.refl _ _).alloc (Nat.le_refl _) _
 have hn1:Blk w1 w 26 #[.int .i64 0,.int .i64 0]:=by rw [hw1];exact Blk.new _ _ _
 have hg1:=hg.below hb1 hgl
 have ho1:=ho.below hb1
 have c5:=hg1.cell 5
 rw [h5,hw1] at c5
 rcases Nat.eq_zero_or_pos n with h0|h0
 ·have d1:((n:Int)==0)=true:=beq_iff_eq.2 (by omega)
  have d2:(n==0)=true:=beq_iff_eq.2 h0
  clear hg h5 ho hn hw1 hb1 hn1 hg1 ho1 h0
  go_enter func30,ntmps30
  conv=>arg 2;arg 2;arg 2;change part [1,1] (codeOf lastFF)
  go_wp2
  refine bodyPost_ret (v:=.agg #[.int .i64 0,.int .i64 0]) (by simp [results,results30,go_sem]) rfl ?_
  exact⟨⟨_,_,rfl⟩,(Below.refl _ _).alloc (Nat.le_refl _) _⟩
 ·obtain⟨m,rfl⟩:∃ m,n=m+1:=⟨n-1,by omega⟩
  obtain⟨ad,o,oA,on,oc,rfl,hab,hck,hop,hss⟩:=ho1.at_ (k:=m) (by omega)
  have d1:(((m+1:Nat):Int)==0)=false:=beq_eq_false_iff_ne.2 (by omega)
  have d2:(m+1==0)=false:=beq_eq_false_iff_ne.2 (by omega)
  have d3:((m:Int)+1==0)=false:=beq_eq_false_iff_ne.2 (by omega)
  have rest:∀ a,Fr 27 a [(0,g),(2,(w:Nat))]->(part [1,1] (codeOf lastFF)).wp prog (bodyPost prog lastFF fun x w'=>(∃ u v,x=.returned (.agg #[.int .i64 u,.int .i64 v]))/\Below w w w') a w1:=by
   intro a hfr
   refine Ytaipgdhdfpemcaa.w2 ?_
   refine last3 _ a hfr hg1 h5 hop (by omega) hn1 fun a2 w2 hf2 hh=>?_
   exact last4 _ a2 hf2 hh.1 ⟨⟨_,_,rfl⟩,hb1.trans hh.2⟩
  obtain⟨HR,HW⟩:=J2 rest hw1
  clear rest hg h5 ho hn hw1 hb1 hn1 hg1 ho1 h0 hab hck hop hss
  go_enter func30,ntmps30
  conv=>arg 2;arg 2;arg 2;change part [1,1] (codeOf lastFF)
  exact Y164
end
end Go.Proofs.Ytaipgdhdfpemcaa
