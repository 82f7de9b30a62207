/- THE WALKS OF THE LANE, part 35. -/
import Derived.Test.YtaipgdhdfpemcaaF28
import Derived.Test.YtaipgdhdfpemcaaF29
namespace Go.Proofs.Ytaipgdhdfpemcaa
set_option linter.all false
open Go.RowKit Go.Proofs.Try
set_option maxRecDepth 100000
set_option maxHeartbeats 4000000
@[reducible] noncomputable def rshipFF:Func:=Try.f49
structure RShipAt (w wb W:World) (B g b6:Nat) (Y S:Nat->Prop) (k:Nat) (os:List OpC) (epoch:Int) (C:Array Value) (qA:O) (qn qc:Nat) (ops:List OpC) (N E:Int):Prop where
 hY:∀ b,Y b->B<=b/\b<w
 hB:B<=w
 hz:w.heap.size+2<=wb
 h6:w.heap.size+2<=b6/\b6<wb
 size:wb.heap.size<=W
 led:RLedIs W B g (New Y wb W) k os epoch
 kept:Kept (fun b=>¬ Y b) w W
 low:Below B w W
 h8:Blk W (w.heap.size+1) 50 #[.int .i64 0,.int .i64 0,.int .i64 0]
 h5:Blk W w 47 C
 hs:Blk W b6 26 #[N,E]
 hops:OpsIs W S qA qn qc ops
 hS:∀ b,S b->¬ Y b/\b<w
section
variable {w wb W W':World} {B g b6:Nat} {Y S:Nat->Prop} {k k':Nat} {os os':List OpC} {epoch epoch':Int} {C:Array Value} {qA:O} {qn qc:Nat} {ops:List OpC} {N E:Int}
section
variable (h:RShipAt w wb W B g b6 Y S k os epoch C qA qn qc ops N E)
include h
theorem RShipAt.hBW:B<=W:=by
 have:=h.hz;have:=h.size;have:=h.hB;omega
theorem RShipAt.gne (i:Nat) (h1':w.heap.size<=i) (h2':i<wb):¬ New Y wb W i:=fun h1=>by
 rcases h1 with h1|h1
 ·have:=(h.hY _ h1).2;omega
 ·omega
theorem RShipAt.yb:∀ b,Y b->B<=b/\b<wb:=fun b hb=>⟨(h.hY b hb).1,by have:=(h.hY b hb).2;have:=h.hz;omega⟩
theorem RShipAt.acted (ha:RActed B g (New Y wb W) k' os' epoch' W W'):RShipAt w wb W' B g b6 Y S k' os' epoch' C qA qn qc ops N E:=by
 have hz:=h.hz
 have h6:=h.h6
 have s1:=h.size
 have s2:=ha.2.1.1
 have hB:=h.hB
 have hn:=h.gne
 refine⟨h.hY,h.hB,h.hz,h.h6,by omega,ha.1.mono (fun b hb hx=>?_) (New.lt h.yb (by omega) (by omega)),⟨by omega,fun b hb hlt=>(ha.2.1.2 b (fun hx=>?_) (by omega)).trans (h.kept.2 b hb hlt)⟩,h.low.trans ha.2.2,(ha.2.1.2 _ (hn (w.heap.size+1) (by omega) (by omega)) (by omega)).trans h.h8,(ha.2.1.2 _ (hn w.heap.size (by omega) (by omega)) (by omega)).trans h.h5,(ha.2.1.2 _ (hn b6 (by omega) (by omega)) (by omega)).trans h.hs,h.hops.kept (ha.2.1.mono fun b _ hb hx=>?_),h.hS⟩
 ·rcases hx with (hx|hx)|hx
  ·exact .inl hx
  ·exact .inr ⟨hx.1,hb⟩
  ·exact .inr ⟨by omega,hb⟩
 ·rcases hx with hx|hx
  ·exact hb hx
  ·omega
 ·have:=h.hS b hb
  rcases hx with hx|hx
  ·exact this.1 hx
  ·omega
theorem RShipAt.below (hb:Below W W W'):RShipAt w wb W' B g b6 Y S k os epoch C qA qn qc ops N E:=
 h.acted (RActed.idle h.led hb h.hBW)
theorem RShipAt.spot (N' E':Int):RShipAt w wb ((W.setCell ⟨b6,0,none⟩ (.int .i64 N')).setCell ⟨b6,1,none⟩ (.int .i64 E')) B g b6 Y S k os epoch C qA qn qc ops N' E':=by
 have hz:=h.hz
 have h6:=h.h6
 have s1:=h.size
 have hB:=h.hB
 have hn:=h.gne b6 (by omega) (by omega)
 have hk:Kept (fun b=>b≠b6) W ((W.setCell ⟨b6,0,none⟩ (.int .i64 N')).setCell ⟨b6,1,none⟩ (.int .i64 E')):=((Kept.refl _ _).set_ ⟨b6,0,none⟩ (.inl fun h=>h rfl) _).set_ ⟨b6,1,none⟩ (.inl fun h=>h rfl) _
 have hl:Below B W ((W.setCell ⟨b6,0,none⟩ (.int .i64 N')).setCell ⟨b6,1,none⟩ (.int .i64 E')):=((Below.refl _ _).setCell (p:=⟨b6,0,none⟩) (show B<=b6 by omega) _).setCell (p:=⟨b6,1,none⟩) (show B<=b6 by omega) _
 have hsz:((W.setCell ⟨b6,0,none⟩ (.int .i64 N')).setCell ⟨b6,1,none⟩ (.int .i64 E')).heap.size=W.heap.size:=by simp
 refine⟨h.hY,h.hB,h.hz,h.h6,by omega,?_,⟨by omega,fun b hb hlt=>(hk.2 b (by omega) (by omega)).trans (h.kept.2 b hb hlt)⟩,h.low.trans hl,(hk.2 _ (by omega) (by omega)).trans h.h8,(hk.2 _ (by omega) (by omega)).trans h.h5,(h.hs.set_ 0 _).set_ 1 _,h.hops.kept (hk.mono fun b _ hb e=>?_),h.hS⟩
 ·have:=h.led.kept (hk.mono fun b _ hb e=>hn (e▸hb))
  exact Y197
 ·have:=(h.hS b hb).2;omega
theorem RShipAt.end_ (hk:Kept (fun q=>q≠w.heap.size+1) W W') (hl:Below (w.heap.size+1) W W'):RActed B g Y k os epoch w W':=by
 have hz:=h.hz
 have h6:=h.h6
 have s1:=h.size
 have s2:=hk.1
 have hB:=h.hB
 have hn:=h.gne (w.heap.size+1) (by omega) (by omega)
 exact Y79
end
end
section
variable {C:Array Value} {E N epoch fence st:Int} {ops os:List OpC} {B b4 b5 b6 g k k' lc ln pc pn qc qn:Nat} {S Y:Nat->Prop} {lA pA qA:O} {v0:Value} {W w w1 w2 wb:World}
theorem RShipAt.more (h:RShipAt w wb W B g b6 Y S k os epoch C qA qn qc ops N E) (hk:k<=k'):RShipAt w wb W B g b6 Y S k' os epoch C qA qn qc ops N E:=
 ⟨h.hY,h.hB,h.hz,h.h6,h.size,h.led.more hk,h.kept,h.low,h.h8,h.h5,h.hs,h.hops,h.hS⟩
theorem rs26 (Q:Z) (a:Act) (hfr:Fr 220 a [(0,g),(4,b4),(6,b5)]) (hg:Blk w g 62 (rledC pA pn pc lA ln lc fence st)) (hb5:Blk w b5 26 #[N,E]) (hQ:∀ a',Fr 220 a' [(0,g),(4,b4),(6,b5)]->Q .normal a' (w.drew.setCell ⟨g,3,none⟩ (.int .i64 (max st N)))) :
 (part [1,1,1,1,1,1,1,1,0] (codeOf rshipFF)).wp prog Q a w:=by
 have hg':Blk w.drew g 62 (rledC pA pn pc lA ln lc fence st):=hg
 have hb':Blk w.drew b5 26 #[N,E]:=hb5
 have HQ:=J hQ
 clear hg hb5 hQ
 obtain⟨w0,hw0⟩:∃ w0,w0=w.drew:=⟨_,rfl⟩
 rw [<-hw0] at hg' hb' HQ
 obtain⟨HG,HO⟩:=J2 hg' hb'
 clear hg' hb'
 refine gg hfr fun t=>?_
 generalize w=w1 at hw0 ⊢
 have HW0:=J hw0
 clear hw0
 refine wp_region_chain kr [10] (fun i=>match i with|0=>g|1=>g|2=>g|3=>.pointer (some ⟨g,3,none⟩)|4=>st|5=>b5|6=>N|7=>.int .i64 (max st N)|8=>g|9=>.pointer (some ⟨g,3,none⟩)|_=>undef) (OneS w0 (w0.setCell ⟨g,3,none⟩ (.int .i64 (max st N)))) (fun _ _=>true) kr kr kr kr ?hS ?hfree ?hlink ?hend
 case hS=>exact HW0.out.symm
 case hfree=>
  intro i o F U vs W ho hni hS hlen hlim hat hoff hd
  have e0:=oo 0 g
  have t0:=act_tmp e0
  have e6:=oo 6 b5
  have t6:=act_tmp e6
  obtain⟨qa,qb⟩:=J2 hat hd
  clear hat hoff hd
  match i with
  | 0|1|5=>
   exact Y51
  | 2=>
   cases ho
   have t209:=act_tmp (fev qa qb 1 209)
   exact vl ⟨rfl,rfl⟩
  | 3=>
   cases ho
   have t210:=act_tmp (fev qa qb 2 210)
   exact vl ⟨rfl,rfl⟩
  | 4=>
   cases ho
   have t211:=act_tmp (fev qa qb 3 211)
   exact Y206
  | 6=>
   cases ho
   have t213:=act_tmp (fev qa qb 5 213)
   exact Y122
  | 7=>
   cases ho
   have t212:=act_tmp (fev qa qb 4 212)
   have t214:=act_tmp (fev qa qb 6 214)
   exact wp_value' (.int .i64 (max st N)) W (by unfold execOp;go_simp;all_goals first|omega|exact IntWalk.i64_in _ (by omega)) ⟨rfl,rfl⟩
  | 8=>
   cases ho
   have t208:=act_tmp (fev qa qb 0 208)
   exact vl ⟨rfl,rfl⟩
  | 9=>
   cases ho
   have t216:=act_tmp (fev qa qb 8 216)
   exact vl ⟨rfl,rfl⟩
  | 10=>
   exact Y76
  | i+11=>exact absurd ho (by simp)
 case hlink=>
  intro k i o F U vs W hk ho hS hvl hat hoff hd
  have:=ot 0 g
  have:=ot 6 b5
  obtain⟨qa,qb⟩:=J2 hat hd
  clear hat hoff hd
  match k with
  | 0=>
   cases hk;cases ho;obtain rfl:=List.eq_nil_of_length_eq_zero hvl;have e217:=fev qa qb 9 217;have t217:=act_tmp e217;have e215:=fev qa qb 7 215;have t215:=act_tmp e215;obtain rfl:=hS;have d8:=HG.out.c1 3;have f8:=HG.out.frozen 3
   exact wp_skip' (W.setCell ⟨g,3,none⟩ (.int .i64 (max st N))) (by unfold execOp;go_simp) ⟨_,rfl,rfl⟩
  | k+1=>exact absurd hk (by simp)
 case hend=>
  exact Y33
theorem rs27 (G:Ending->World->Prop) (a:Act) (hfr:Fr 220 a [(0,v0),(4,b4),(6,b5)]) (h8:Blk w2 b4 50 #[.int .i64 0,.int .i64 0,.int .i64 0]) (hs:Blk w2 b5 26 #[N,E]) (hG:∀ W,Kept (fun q=>q≠b4) w2 W->Below b4 w2 W->G (.returned (doneV 0 N E)) W) :
 (part [1,1,1,1,1,1,1,1,1] (codeOf rshipFF)).wp prog (bodyPost prog rshipFF G) a w2:=by
 exact Y41
theorem rs_tail (h:RShipAt w wb w1 B g b6 Y S k os fence C qA qn qc ops N E) (a:Act) (hfr:Fr 220 a [(0,g),(4,(w.heap.size+1:Nat)),(6,b6)]) :
 (part [1,1,1,1,1,1,1,1] (codeOf rshipFF)).wp prog (bodyPost prog rshipFF fun x w'=>(∃ e n ep,x=.returned (doneV e n ep))/\RActed B g Y k os fence w w') a w1:=by
 obtain⟨pA,pn,pc,lA,ln,lc,st,hgb,hos⟩:=h.led.open_
 refine w2 ?_
 refine rs26 _ a hfr hgb h.hs fun a2 hf2=>?_
 have hd:Below w1 w1 w1.drew:=⟨rfl,rfl,rfl,Nat.le_refl _,fun _ _=>rfl⟩
 have h2:=(h.below hd).acted (((h.below hd).led.set_ h.hBW).2 (max st N))
 show (part [1,1,1,1,1,1,1,1,1] (codeOf rshipFF)).wp prog _ a2 _
 refine rs27 _ a2 hf2 h2.h8 h2.hs fun W hk hlw=>?_
 exact⟨⟨_,_,_,rfl⟩,h2.end_ hk hlw⟩
end
theorem eta48 (t:Array Value) (h:t.size=48):t=#[at_ t 0,at_ t 1,at_ t 2,at_ t 3,at_ t 4,at_ t 5,at_ t 6,at_ t 7,at_ t 8,at_ t 9,at_ t 10,at_ t 11,at_ t 12,at_ t 13,at_ t 14,at_ t 15,at_ t 16,at_ t 17,at_ t 18,at_ t 19,at_ t 20,at_ t 21,at_ t 22,at_ t 23,at_ t 24,at_ t 25,at_ t 26,at_ t 27,at_ t 28,at_ t 29,at_ t 30,at_ t 31,at_ t 32,at_ t 33,at_ t 34,at_ t 35,at_ t 36,at_ t 37,at_ t 38,at_ t 39,at_ t 40,at_ t 41,at_ t 42,at_ t 43,at_ t 44,at_ t 45,at_ t 46,at_ t 47]:=(eta_ t h).trans kr
@[reducible] noncomputable def rputFF:Func:=Try.f115
theorem strV_drop (ss:List ByteArray) (k:Nat):(strV ss).drop k=strV (ss.drop k):=by simp [strV,List.map_drop]
section
variable {ad:Addr} {s:ByteArray} {ss:List ByteArray} {B c k n rc rn:Nat} {S:Nat->Prop} {A rA:O} {w:World}
theorem strV_take (ss:List ByteArray) (k:Nat):(strV ss).take k=strV (ss.take k):=by simp [strV,List.map_take]
theorem StrIs.drop_ (h:StrIs w S (some ad) n c ss):Reads w w.heap.size 1 (some (ad.add k)) (n-k) (strV (ss.drop k)):=by
 have hl:=h.len
 refine⟨by simp [strV];omega,fun hn=>?_⟩
 obtain⟨ad',e,_,q2,q3⟩:=h.1.2 (by omega)
 injection e with e
 subst e
 refine⟨ad.add k,rfl,by rw [block_of_add];exact q2,fun j u hu=>?_⟩
 rw [<-strV_drop,List.getElem?_drop] at hu
 rw [Addr.add_add]
 exact q3 (k+j) u hu
theorem rput7 (a:Act) (hfr:Fr 48 a [(0,.slice A n c),(1,.string s),(5,.int .i64 (k:Nat)),(6,.slice rA rn rc)]) (h:StrIs w S A n c ss) (hk:k<=n) (hn:n<=1000) (hA:A=none->n=0) (hrn:rn<=1000) (hr:Reads w w.heap.size 1 rA rn (strV (ss.drop k))) (G:Ending->World->Prop) (hG:∀ A' c' W,W.ownsRow w.heap.size 9 1 (.slice A' (k+1+rn) c') (k+1+rn) (strV (ss.take k++s::ss.drop k))->Below w w W->G (.returned (.slice A' (k+1+rn) c')) W) :
 (part [1,1,1,1,1] (codeOf rputFF)).wp prog (bodyPost prog rputFF G) a w:=by
 have hl:=h.len
 obtain⟨hrs,hcap,hcm⟩:=h
 obtain⟨i0,hi0,hz0,hz1,hz2⟩:=info_parts Try.infoStr
 obtain⟨HI,HZ0,HZ1,HZ2,HG,HRS,HR⟩:=J7 hi0 hz0 hz1 hz2 hG hrs hr
 have z1:(0:Int)<=(k:Nat):=by omega
 have z3:((k:Nat):Int)<=((c:Nat):Int):=by omega
 have z4:((c:Nat):Int)<=9223372036854775807:=by unfold maxLen at hcm;omega
 have HN:=J (And.intro hk (And.intro hn (And.intro hcap hrn)))
 obtain⟨HL,HAA⟩:=J2 hl hA
 clear hi0 hz0 hz1 hz2 hG hrs hr hcap hcm hl hk hn hrn hA
 refine gg hfr fun t=>?_
 go_wp2_with (at_builtin;refine wpList_append_grows _ rfl (.tmp 42) (.tmp 44) 24 rfl 9 i0 _ 1 16 underlying24 HI.out HZ0.out HZ1.out HZ2.out rfl (by omega) A k k (strV (ss.take k)) rfl ?hnone ?hlo ?holds ⟨w.heap.size,0,none⟩ 1 1 [.string s] rfl rfl ?hc ?h1c (by omega) ?b1 ?b2 ?_)
 case hnone=>intro e;have:=HAA.out e;have:=HN.out;omega
 case hlo=>have:=HN.out;have:=HL.out;simp [strV];omega
 case holds=>
  intro b e j u hu
  subst e
  have hn:=HN.out
  have hl:=HL.out
  rw [<-strV_take] at hu
  have hj:j<k:=by
   have:=(List.getElem?_eq_some_iff.1 hu).1
   rw [List.length_take] at this
   omega
  obtain⟨ad',e,_,q2,q3⟩:=HRS.out.2 (by omega)
  injection e with e
  subst e
  rw [List.getElem?_take,if_pos hj] at hu
  rw [World.cell?_of_block (w:=w) (by rw [block_of_add];exact Below.heap_alloc _ _ _ q2)]
  exact q3 j u hu
 case hc=>
  intro j u hu
  have hj:j=0:=by
   have:=(List.getElem?_eq_some_iff.1 hu).1
   simp at this
   omega
  subst hj
  simp at hu
  subst hu
  exact (Blk.new w 9 #[.string s]).cell 0
 case h1c=>intro u hu;simp at hu;subst hu;rfl
 case b1=>have:=HN.out;unfold maxLen;omega
 case b2=>have:=HN.out;omega
 intro v1 w1 hown1 hg1
 have hb1:Below w w w1:=((Below.refl _ _).alloc (Nat.le_refl _) _).grown hg1 (by simp) (by intro k hk;cases hk)
 obtain⟨A1,c1,rfl,hc1,hcm1,_⟩:=own_slice hown1
 have hown2:w1.ownsRow w.heap.size 9 1 (.slice A1 (k+1) c1) (k+1) (strV (ss.take k)++[.string s]):=ownsRow_low hown1 (by simp)
 obtain⟨HO1,HB1⟩:=J2 hown2 hb1
 clear hown1 hown2 hg1 hb1 hc1 hcm1
 go_wp2_with (at_builtin;refine wpList_append_any _ rfl (.tmp 45) (.tmp 46) _ rfl w.heap.size 9 i0 _ 1 16 underlying24 HI.out HZ0.out HZ1.out HZ2.out rfl (by omega) (.slice A1 (k+1) c1) (k+1) _ rfl HO1.out w.heap.size rA rn rc (strV (ss.drop k)) rfl (HR.out.below HB1.out) (strV_one _) ?d1 ?d2 ?d3 ?_)
 case d1=>have:=HN.out;unfold maxLen;omega
 case d2=>have:=HN.out;omega
 case d3=>exact HB1.out.size
 intro v2 w2 hown3 hg2 hat2
 obtain⟨A2,c2,rfl,hc2,hcm2,_⟩:=own_slice hown3
 have hb2:Below w w w2:=HB1.out.grown hg2 HB1.out.size (by
  intro q hq
  exact (HO1.out.lt q hq).1)
 have e:strV (ss.take k)++.string s::strV (ss.drop k)=strV (ss.take k++s::ss.drop k):=by simp [strV]
 rw [e] at hown3
 obtain⟨HO3,HB2⟩:=J2 hown3 hb2
 clear hown3 hg2 hat2 hb2 hc2 hcm2 e
 go_wp2
 exact HG.out _ _ _ HO3.out HB2.out
section
variable (Q:Z) (a:Act) (hfr:Fr 48 a [(0,.slice (some ad) n c),(1,.string s),(5,.int .i64 (k:Nat))]) (h:StrIs w S (some ad) n c ss) (hk:k<=n) (hn:n<=1000)
include Q a hfr h hk hn
theorem rput6_some (hkc:k<c) (hQ:∀ a' W rA rc,Fr 48 a' [(0,.slice (some ad) n c),(1,.string s),(5,.int .i64 (k:Nat)),(6,.slice rA (n-k) rc)]->Reads W W.heap.size 1 rA (n-k) (strV (ss.drop k))->Below w w W->Q .normal a' W) :
 (part [1,1,1,1,0] (codeOf rputFF)).wp prog Q a w:=by
 obtain⟨_,hcap,hcm⟩:=id h
 have hd:=h.drop_ (k:=k)
 have z1:(0:Int)<=(k:Nat):=by omega
 have z2:((k:Nat):Int)<=((n:Nat):Int):=by omega
 have z3:((k:Nat):Int)<=((c:Nat):Int):=by omega
 have z5:((n:Nat):Int)<=((c:Nat):Int):=by omega
 have z4:((c:Nat):Int)<=9223372036854775807:=by unfold maxLen at hcm;omega
 have HN:=J (And.intro hk (And.intro hn (And.intro hcap hkc)))
 have q1:¬ c=k:=by omega
 have q2:¬ c-k=0:=by omega
 clear hcap hcm hk hn h hkc
 obtain⟨i0,hi0,hz0,hz1,hz2⟩:=info_parts Try.infoStr
 obtain⟨HI,HZ0,HZ1,HZ2,HQ,HD⟩:=J6 hi0 hz0 hz1 hz2 hQ hd
 clear hi0 hz0 hz1 hz2 hQ hd
 refine gg hfr fun t=>?_
 go_wp2_with (first|(exfalso;have:=HN.out;omega)|(at_builtin;refine wpList_append_any _ rfl (.tmp 34) (.tmp 37) _ rfl w.heap.size 9 i0 _ 1 16 underlying24 HI.out HZ0.out HZ1.out HZ2.out rfl (by omega) (.slice (some ⟨w.heap.size,0,none⟩) 0 0) 0 [] rfl (own_empty w _ 1) w.heap.size (some (ad.add k)) (n-k) (c-k) (strV (ss.drop k)) rfl ?hr (strV_one _) ?d1 ?d2 ?d3 ?_))
 case hr=>exact HD.out.alloc (Nat.le_refl _) _
 case d1=>have:=HN.out;unfold maxLen;omega
 case d2=>have:=HN.out;omega
 case d3=>simp
 intro v2 w2 hown hg2 hat2
 try simp only [Nat.zero_add,List.nil_append] at hown
 obtain⟨A2,c2,rfl,hc2,hcm2,hrd⟩:=own_slice hown
 have hb2:Below w w w2:=((Below.refl _ _).alloc (Nat.le_refl _) _).grown hg2 (by simp) (by intro k hk;simp [Value.ownBlock] at hk;omega)
 obtain⟨HO3,HB2⟩:=J2 hrd hb2
 clear hown hg2 hat2 hb2 hc2 hcm2 hrd
 go_wp2_with fail
 exact HQ.out _ _ _ _ ff HO3.out HB2.out
theorem rput6_end (hkc:c<=k) (hQ:∀ a' W rA rc,Fr 48 a' [(0,.slice (some ad) n c),(1,.string s),(5,.int .i64 (k:Nat)),(6,.slice rA (n-k) rc)]->Reads W W.heap.size 1 rA (n-k) (strV (ss.drop k))->Below w w W->Q .normal a' W) :
 (part [1,1,1,1,0] (codeOf rputFF)).wp prog Q a w:=by
 obtain⟨_,hcap,hcm⟩:=id h
 obtain rfl:n=k:=by omega
 obtain rfl:c=n:=by omega
 have hl:=h.len
 have hd:Reads w w.heap.size 1 (some ad) 0 (strV (ss.drop c)):=⟨by rw [List.drop_of_length_le (by omega)];rfl,fun h=>absurd h (by omega)⟩
 have z1:(0:Int)<=(c:Nat):=by omega
 have z4:((c:Nat):Int)<=9223372036854775807:=by unfold maxLen at hcm;omega
 have HN:=J hn
 clear hcap hcm hk hn h hkc hl
 obtain⟨i0,hi0,hz0,hz1,hz2⟩:=info_parts Try.infoStr
 obtain⟨HI,HZ0,HZ1,HZ2,HQ,HD⟩:=J6 hi0 hz0 hz1 hz2 hQ hd
 clear hi0 hz0 hz1 hz2 hQ hd
 refine gg hfr fun t=>?_
 go_wp2_with (first|(exfalso;have:=HN.out;omega)|(at_builtin;refine wpList_append_any _ rfl (.tmp 34) (.tmp 37) _ rfl w.heap.size 9 i0 _ 1 16 underlying24 HI.out HZ0.out HZ1.out HZ2.out rfl (by omega) (.slice (some ⟨w.heap.size,0,none⟩) 0 0) 0 [] rfl (own_empty w _ 1) w.heap.size (some ad) 0 0 (strV (ss.drop c)) rfl ?hr (strV_one _) ?d1 ?d2 ?d3 ?_))
 case hr=>exact HD.out.alloc (Nat.le_refl _) _
 case d1=>have:=HN.out;unfold maxLen;omega
 case d2=>have:=HN.out;omega
 case d3=>simp
 intro v2 w2 hown hg2 hat2
 try simp only [Nat.zero_add,List.nil_append] at hown
 obtain⟨A2,c2,rfl,hc2,hcm2,hrd⟩:=own_slice hown
 have hb2:Below w w w2:=((Below.refl _ _).alloc (Nat.le_refl _) _).grown hg2 (by simp) (by intro k hk;simp [Value.ownBlock] at hk;omega)
 obtain⟨HO3,HB2⟩:=J2 hrd hb2
 clear hown hg2 hat2 hb2 hc2 hcm2 hrd
 go_wp2_with fail
 have h0:c-c=0:=Nat.sub_self c
 rw [h0] at HQ
 exact HQ.out _ _ _ _ ff HO3.out HB2.out
end
theorem rput6_nil (Q:Z) (a:Act) (hfr:Fr 48 a [(0,.slice none 0 0),(1,.string s),(5,.int .i64 (0:Nat))]) (hQ:∀ a' W rA rc,Fr 48 a' [(0,.slice none 0 0),(1,.string s),(5,.int .i64 (0:Nat)),(6,.slice rA 0 rc)]->Reads W W.heap.size 1 rA 0 (strV [])->Below w w W->Q .normal a' W) :
 (part [1,1,1,1,0] (codeOf rputFF)).wp prog Q a w:=by
 have hd:Reads w w.heap.size 1 none 0 (strV []):=⟨rfl,fun h=>absurd h (by omega)⟩
 obtain⟨i0,hi0,hz0,hz1,hz2⟩:=info_parts Try.infoStr
 obtain⟨HI,HZ0,HZ1,HZ2,HQ,HD⟩:=J6 hi0 hz0 hz1 hz2 hQ hd
 clear hi0 hz0 hz1 hz2 hQ hd
 refine gg hfr fun t=>?_
 go_wp2_with (at_builtin;refine wpList_append_any _ rfl (.tmp 34) (.tmp 37) _ rfl w.heap.size 9 i0 _ 1 16 underlying24 HI.out HZ0.out HZ1.out HZ2.out rfl (by omega) (.slice (some ⟨w.heap.size,0,none⟩) 0 0) 0 [] rfl (own_empty w _ 1) w.heap.size none 0 0 (strV []) rfl ?hr (strV_one _) ?d1 ?d2 ?d3 ?_)
 case hr=>exact HD.out.alloc (Nat.le_refl _) _
 case d1=>unfold maxLen;omega
 case d2=>omega
 case d3=>simp
 intro v2 w2 hown hg2 hat2
 try simp only [Nat.zero_add,List.nil_append] at hown
 obtain⟨A2,c2,rfl,hc2,hcm2,hrd⟩:=own_slice hown
 have hb2:Below w w w2:=((Below.refl _ _).alloc (Nat.le_refl _) _).grown hg2 (by simp) (by intro k hk;simp [Value.ownBlock] at hk;omega)
 obtain⟨HO3,HB2⟩:=J2 hrd hb2
 clear hown hg2 hat2 hb2 hc2 hcm2 hrd
 go_wp2_with fail
 exact HQ.out _ _ _ _ ff HO3.out HB2.out
theorem own_strIs (h:w.ownsRow B 9 1 (.slice A n c) n (strV ss)) (hS:∀ b,B<=b->S b):StrIs w S A n c ss:=by
 obtain⟨A',c',e,h1,h2,h3⟩:=own_slice h
 injection e with e1 _ e2
 subst e1 e2
 exact⟨Rs.of h3 fun _ ad e=>hS _ (h.lt ad.block (by subst e;rfl)).1,h1,h2⟩
theorem rput_tail (h:StrIs w S A n c ss) (hA:A=none->c=0) (hk:k<=n) (hn:n<=500) (a:Act) (hfr:Fr 48 a [(0,.slice A n c),(1,.string s),(5,.int .i64 (k:Nat))]) (G:Ending->World->Prop) (hG:∀ A' c' W,StrIs W (fun b=>S b\/w.heap.size<=b) A' (n+1) c' (ss.take k++s::ss.drop k)->Below w w W->G (.returned (.slice A' (n+1) c')) W) :
 (part [1,1,1,1] (codeOf rputFF)).wp prog (bodyPost prog rputFF G) a w:=by
 have hl:=h.len
 refine w2 ?_
 have fin:∀ (a':Act) (W:World) (rA:O) (rc:Nat),Fr 48 a' [(0,.slice A n c),(1,.string s),(5,.int .i64 (k:Nat)),(6,.slice rA (n-k) rc)]->Reads W W.heap.size 1 rA (n-k) (strV (ss.drop k))->Below w w W->(part [1,1,1,1,1] (codeOf rputFF)).wp prog (bodyPost prog rputFF G) a' W:=by
  intro a' W rA rc hf hr hb
  have hs:=hb.size
  refine rput7 a' hf (h.below hb) hk (by omega) (fun e=>by have:=hA e;have:=h.2.1;omega) (by omega) hr G fun A' c' W' ho hb'=>?_
  have e:k+1+(n-k)=n+1:=by omega
  rw [e] at ho ⊢
  exact hG A' c' W' (own_strIs ho fun b hb2=>.inr (by omega)) (hb.trans (hb'.mono hs))
 cases A with
 | none=>
  obtain rfl:=hA rfl
  have hn0:=h.2.1
  obtain rfl:n=0:=by omega
  obtain rfl:k=0:=by omega
  obtain rfl:ss=[]:=List.eq_nil_of_length_eq_zero hl
  exact rput6_nil _ a hfr fin
 | some ad=>
  rcases Nat.lt_or_ge k c with hkc|hkc
  ·exact rput6_some _ a hfr h hk (by omega) hkc fin
  ·exact rput6_end _ a hfr h hk (by omega) hkc fin
theorem rput_any (s:ByteArray) (h:StrIs w S A n c ss) (hA:A=none->c=0) (hn:n<=500) :
 Calls prog 115 #[.slice A n c,.string s] w fun x w'=>∃ A' n' c',x=.returned (.slice A' n' c')/\StrIs w' (fun b=>S b\/w.heap.size<=b) A' n' c' (putS ss s)/\n'<=n+1/\(A'=none->c'=0)/\Below w w w':=by
 have hl:=h.len
 obtain⟨HS,HL,HA,HN⟩:=J4 h hl hA hn
 have HT:=J (fun (k:Nat) (hk:k<=n) (a:Act) (hf:Fr 48 a [(0,.slice A n c),(1,.string s),(5,.int .i64 (k:Nat))]) G hG=>rput_tail h hA hk hn a hf G hG)
 clear h hl hA
 go_enter func115,ntmps115
 conv=>arg 2;arg 2;arg 2;arg 2;arg 2;change part [1,1,1,1] (codeOf rputFF)
 go_wp2_with fail
 go_loopw [5] (fun i wr=>∃ k:Nat,k<=n/\i=.int .i64 k/\(∀ (j:Nat) (y:ByteArray),ss[j]? = some y->j<k->ltN y s=true)/\wr=w) (fun i _=>n-(intOf i).toNat)
 case atStart=>exact⟨0,by omega,rfl,fun j y _ hj=>by omega,rfl⟩
 case round=>
  obtain⟨k,hk,rfl,hlt,rfl⟩:=hrel
  have HLT:=J hlt
  clear hlt
  rcases Nat.lt_or_ge k n with hk1|hk1
  ·obtain⟨ad,y,rfl,hab,hy,hc⟩:=HS.out.at_ hk1
   have HY:=J hy
   have d1:decide ((k:Int)<(n:Int))=true:=decide_eq_true (by omega)
   have d2:decide (k<n)=true:=decide_eq_true hk1
   clear hy hab
   cases hb:Op.bytesLess y.toList s.toList with
   | true=>
    have HB:=J hb
    go_wp2
    have ht:=HLT.out
    have hy:=HY.out
    refine⟨⟨k+1,hk1,rfl,fun j z hz hj=>?_,trivial⟩,by simp only [intOf];omega⟩
    rcases Nat.lt_or_ge j k with hjk|hjk
    ·exact ht j z hz hjk
    ·obtain rfl:j=k:=by omega
     rw [hy] at hz
     injection hz with hz
     subst hz
     exact HB.out
   | false=>
    have HB:=J hb
    by_cases he:y=s
    ·have hb2:(y.toList==s.toList)=true:=by rw [he];exact beq_self_eq_true _
     have HE:=J he
     clear he
     go_wp2_with fail
     refine bodyPost_ret (results_tmp rfl _ _ _) rfl ?_
     have e1:=putS_at ss s k y HLT.out HY.out HB.out
     rw [if_pos HE.out] at e1
     exact⟨_,_,_,rfl,by rw [e1];exact HS.out.mono fun _ _ h=>.inl h,by omega,HA.out,Below.refl _ _⟩
    ·have hb2:(y.toList==s.toList)=false:=beq_eq_false_iff_ne.2 fun e=>he (toList_inj e)
     have HE:=J he
     clear he
     go_wp2_with fail
     have e1:=putS_at ss s k y HLT.out HY.out HB.out
     rw [if_neg HE.out] at e1
     refine HT.out k hk _ ff _ fun A' c' W h1 h2=>⟨A',n+1,c',rfl,by rw [e1];exact h1,Nat.le_refl _,fun e=>?_,h2⟩
     subst e
     obtain⟨ad2,e2,_⟩:=h1.1.2 (by omega)
     cases e2
  ·obtain rfl:k=n:=by omega
   have d1:decide ((k:Int)<(k:Int))=false:=decide_eq_false (by omega)
   have d2:decide (k<k)=false:=decide_eq_false (by omega)
   go_wp2_with fail
   have e1:putS ss s=ss.take k++s::ss.drop k:=by
    have hl:=HL.out
    rw [List.take_of_length_le (by omega),List.drop_of_length_le (by omega)]
    refine putS_end ss s fun x hx=>?_
    obtain⟨j,hj⟩:=List.getElem?_of_mem hx
    have hjl:=(List.getElem?_eq_some_iff.1 hj).1
    exact HLT.out j x hj (by omega)
   refine HT.out k hk _ ff _ fun A' c' W h1 h2=>⟨A',k+1,c',rfl,by rw [e1];exact h1,Nat.le_refl _,fun e=>?_,h2⟩
   subst e
   obtain⟨ad2,e2,_⟩:=h1.1.2 (by omega)
   cases e2
end
theorem rs20 {w:World} {B g b5:Nat} {X:Nat->Prop} {os:List OpC} {pA:O} {pn pc:Nat} {lA:O} {ln lc:Nat} {fence st:Int} {v3 v4 v6 v7 v8 v9:Value} {o:OpC} (Q:Z) (a:Act) (hfr:Fr 220 a [(0,g),(3,v3),(4,v4),(6,v6),(7,v7),(8,v8),(9,v9),(10,b5)]) (h:RLed w B X g os pA pn pc lA ln lc fence st) (hb5:Blk w b5 45 (oC o.n o.epoch o.kind o.site o.client o.seq o.name o.size none 0 0)) (h5:some b5≠ob lA) (hln:ln<=1000000) (hB:B<=w) (hQ:∀ a' W,Fr 220 a' [(0,g),(3,v3),(4,v4),(6,v6),(7,v7),(8,v8),(9,v9),(10,b5)]->(∃ lA' lc',RLed W B X g os pA pn pc lA' (ln+1) lc' fence st/\Kept (fun b=>b≠g/\some b≠ob lA) w W/\Below B w W/\(ob lA'=ob lA\/ob lA'=some (w.heap.size+1)))->Q .normal a' W) :
 (part [1,1,1,1,1,1,0,1,0,0,1,0,0,1,1,1,0,1,0,0,1,0,0,1,1] (codeOf rshipFF)).wp prog Q a w:=by
 have hd:RLed w.drew B X g os pA pn pc lA ln lc fence st:=h.keep ⟨Nat.le_refl _,fun _ _ _=>rfl⟩
 have ho:Blk w.drew b5 45 (oC o.n o.epoch o.kind o.site o.client o.seq o.name o.size none 0 0):=hb5
 have hB':B<=w.drew.heap.size:=hB
 have hng:some g≠ob lA:=fun e=>(h.nl g e.symm).2 rfl
 have HQ:=J (show ∀ a' W,Fr 220 a' [(0,g),(3,v3),(4,v4),(6,v6),(7,v7),(8,v8),(9,v9),(10,b5)]->(∃ lA' lc',RLed W B X g os pA pn pc lA' (ln+1) lc' fence st/\Kept (fun b=>b≠g/\some b≠ob lA) w.drew W/\Below B w.drew W/\(ob lA'=ob lA\/ob lA'=some (w.drew.heap.size+1)))->Q .normal a' W from fun a' W hf hh=>hQ a' W hf (by obtain⟨A',c',h1,h2,h3,h4⟩:=hh;exact⟨A',c',h1,h2,⟨h3.os,h3.tape,h3.output,h3.size,h3.block⟩,h4⟩))
 clear h hb5 hB hQ
 obtain⟨w0,hw0⟩:∃ w0,w0=w.drew:=⟨_,rfl⟩
 rw [<-hw0] at hd ho hB' HQ
 obtain⟨HL,HO,HN5,HNG,HB,HN⟩:=J6 hd ho h5 hng hB' hln
 clear hd ho h5 hB' hln hng
 refine gg hfr fun t=>?_
 generalize w=w1 at hw0 ⊢
 have HW0:=J hw0
 clear hw0
 refine wp_region_chain kr [6,7,10] (fun i=>match i with|0=>g|1=>g|2=>g|3=>.pointer (some ⟨g,1,none⟩)|4=>.slice lA ln lc|5=>.agg #[.int .i64 o.n,o.epoch,o.kind,o.site,o.client,o.seq,.string o.name,o.size,.slice none 0 0]|8=>g|9=>.pointer (some ⟨g,1,none⟩)|_=>undef) (LostS w0 B lA ln (oC o.n o.epoch o.kind o.site o.client o.seq o.name o.size none 0 0) (fun W=>∃ lA' lc',RLed W B X g os pA pn pc lA' (ln+1) lc' fence st/\Kept (fun b=>b≠g/\some b≠ob lA) w0 W/\Below B w0 W/\(ob lA'=ob lA\/ob lA'=some (w0.heap.size+1)))) (fun s i=>s==10) kr kr kr kr ?hS ?hfree ?hlink ?hend
 case hS=>exact HW0.out.symm
 case hfree=>
  intro i o F U vs W ho hni hS hlen hlim hat hoff hd
  have e0:=oo 0 g
  have t0:=act_tmp e0
  have e10:=oo 10 b5
  have t10:=act_tmp e10
  obtain⟨qa,qb⟩:=J2 hat hd
  clear hat hoff hd
  match i with
  | 0|1=>
   exact Y51
  | 2=>
   cases ho
   have t151:=act_tmp (fev qa qb 1 151)
   exact vl ⟨rfl,rfl⟩
  | 3=>
   cases ho
   have t152:=act_tmp (fev qa qb 2 152)
   exact vl ⟨rfl,rfl⟩
  | 4=>
   cases ho
   have t153:=act_tmp (fev qa qb 3 153)
   have hk:=hS.kept (hlim 2 10 rfl rfl)
   have hg:=(hk.2 g HNG.out HL.out.blk.lt).trans HL.out.blk
   have d0:=Blk.cell hg 1
   exact Y127
  | 5=>
   exact Y46
  | 6|7|10=>
   exact Y76
  | 8=>
   cases ho
   have t150:=act_tmp (fev qa qb 0 150)
   exact vl ⟨rfl,rfl⟩
  | 9=>
   cases ho
   have t158:=act_tmp (fev qa qb 8 158)
   exact vl ⟨rfl,rfl⟩
  | i+11=>exact absurd ho (by simp)
 case hlink=>
  intro k i o F U vs W hk ho hS hvl hat hoff hd
  have:=ot 0 g
  have:=ot 10 b5
  obtain⟨qa,qb⟩:=J2 hat hd
  clear hat hoff hd
  match k with
  | 0=>
   cases hk;cases ho;obtain rfl:=List.eq_nil_of_length_eq_zero hvl;have e155:=fev qa qb 5 155;have t155:=act_tmp e155;obtain rfl:=hS
   exact Y111
  | 1=>
   cases hk;cases ho;obtain⟨u0,rfl⟩:=ln1 hvl;have e154:=fev qa qb 4 154;have t154:=act_tmp e154;have e156:=cev qa qb 6 156;have t156:=act_tmp e156;obtain⟨rfl,rfl⟩:=hS;obtain⟨w1,hw1⟩:∃ w1,w1=w0.alloc (.cells (oC o.n o.epoch o.kind o.site o.client o.seq o.name o.size none 0 0) 45):=⟨_,rfl⟩;rw [<-hw1]
   have hb1:Below w0 w0 w1:=by rw [hw1];exact (Below.refl _ _).alloc (Nat.le_refl _) _
   have hz1:w1.heap.size=w0.heap.size+1:=by rw [hw1];simp
   have hblk:Blk w1 w0 45 (oC o.n o.epoch o.kind o.site o.client o.seq o.name o.size none 0 0):=by rw [hw1];exact Blk.new _ _ _
   obtain⟨xs,hlost⟩:=HL.out.lost
   have hlost1:=ownsRow_keep hlost (w':=w1) fun q hq=>hb1.block q (HL.out.lostLt q (by rw [ownBlock_slice] at hq;exact hq)).2
   obtain⟨i0,hi,hz0,hz01,hz02⟩:=info_parts Try.infoOp
   obtain⟨v',w',hrun,ho,hg,hb⟩:=run_append_any (P:=prog) w1 B 28 28 45 i0 _ 9 96 underlying28 hi hz0 hz01 hz02 rfl (by omega) (.slice lA ln lc) ln xs hlost1 w1.heap.size (some ⟨w0.heap.size,0,none⟩) 1 1 (opsV [o.at_ none 0 0]) (hblk.reads (n:=1) (size:=9) rfl) (opsV_one _) (by have:=HN.out;unfold maxLen;omega) (by have:=HN.out;omega) (by have:=HB.out;omega)
   rw [ownBlock_slice] at hg hb;obtain⟨lA',lc',rfl,_⟩:=own_slice ho;rw [ownBlock_slice,hz1] at hb
   refine wp_value' (.slice lA' (ln+1) lc') w' (by unfold execOp;simp [resolve,invoke,builtin,e154,e156,hrun,Result.andThen]) ⟨_,rfl,lA',lc',rfl,⟨_,ho⟩,hb,?_,?_⟩
   ·exact ((Kept.of _ hb1).mono fun _ _ h=>h).grown hg fun q hq=>.inl fun h=>h hq.symm
   ·exact (hb1.mono HB.out).trans (below_grown hg (fun q hq=>(HL.out.lostLt q hq).1) (by have:=HB.out;omega))
  | 2=>
   cases hk;cases ho;obtain⟨u0,u1,rfl⟩:=ln2 hvl;have e159:=fev qa qb 9 159;have t159:=act_tmp e159;have e157:=cev qa qb 7 157;have t157:=act_tmp e157;obtain⟨lA',lc',hu,hlost,hob,hk,hlow⟩:=hS;rw [hu] at e157;have t157:=act_tmp e157;have hg:=(hk.2 g HNG.out HL.out.blk.lt).trans HL.out.blk;have f6:W.frozen? ⟨g,1,none⟩=false:=Blk.frozen hg 1;have d6:=Blk.cell hg 1;simp at d6
   refine wp_skip' (W.setCell ⟨g,1,none⟩ (.slice lA' (ln+1) lc')) (by unfold execOp;go_simp) ⟨_,rfl,lA',lc',?_,?_,hlow.setCell (p:=⟨g,1,none⟩) HL.out.bb _,hob⟩
   rotate_left
   ·exact (hk.mono fun b _ h=>h.2).set_ ⟨g,1,none⟩ (.inl fun h=>h.1 rfl) _
   have hs:=hk.1
   have hne:∀ b,b≠g->(W.setCell ⟨g,1,none⟩ (.slice lA' (ln+1) lc')).heap[b]? = W.heap[b]?:=fun b hb=>Below.heap_setCell _ _ _ b hb
   have hsz:(W.setCell ⟨g,1,none⟩ (.slice lA' (ln+1) lc')).heap.size=W.heap.size:=by simp
   have hX:∀ b,X b->some b≠ob lA:=fun b hb e=>(HL.out.nl b e.symm).1 hb
   have lt0:=HL.out.blk.lt
   have hkg:Kept (fun b=>b≠g/\some b≠ob lA) w0 (W.setCell ⟨g,1,none⟩ (.slice lA' (ln+1) lc')):=(hk.mono fun b _ h=>h.2).set_ ⟨g,1,none⟩ (.inl fun h=>h.1 rfl) _
   obtain⟨xs,hx⟩:=hlost
   have hnl:∀ q,ob lA'=some q->(¬ X q/\q≠g):=by
    intro q hq
    rcases hob with h|h
    ·exact HL.out.nl q (h▸hq)
    ·rw [h] at hq
     injection hq with hq
     exact⟨fun hxq=>by have:=(HL.out.xlt q hxq).2;omega,by omega⟩
   refine⟨Blk.set_ hg 1 _,HL.out.row.kept (hkg.mono fun b _ h=>⟨fun e=>HL.out.nb (e▸h),hX b h⟩),⟨xs,ownsRow_keep hx fun q hq=>hne q ?_⟩,HL.out.nb,HL.out.bb,hnl,fun b hb=>⟨(HL.out.xlt b hb).1,by have:=(HL.out.xlt b hb).2;omega⟩⟩
   rw [ownBlock_slice] at hq;exact (hnl q hq).2
  | k+3=>exact absurd hk (by simp)
 case hend=>
  exact Y216
section
variable {g pn j:Nat} {v3 v4 v6 v7 v8 v9:Value}
section
variable {ad:Addr} {cs:Array Value} {b5 oc on pc:Nat} {oA pA:O} {o:OpC} {w:World}
theorem rs18 (hg:Blk w g 62 cs) (hg0:cs[0]? = some (.slice (some ad) pn pc)) (Q:Z) (a:Act) (hfr:Fr 220 a [(0,g),(3,v3),(4,v4),(6,v6),(7,v7),(8,v8),(9,.int .i64 (j:Nat))]) (hj:j<pn) (hop:OpAt w (ad.add (j*9)) (o.at_ oA on oc)) (hQ:∀ a',Fr 220 a' [(0,g),(3,v3),(4,v4),(6,v6),(7,v7),(8,v8),(9,.int .i64 (j:Nat)),(10,(w:Nat))]->Q .normal a' (w.alloc (.cells (oC o.n o.epoch o.kind o.site o.client o.seq o.name o.size oA on oc) 45))) :
 (part [1,1,1,1,1,1,0,1,0,0,1,0,0,1,1,1,0,1,0,0,1,0,0,0] (codeOf rshipFF)).wp prog Q a w:=by
 have g0:=hg.cell 0
 rw [hg0] at g0
 obtain⟨k0,k1,k2,k3,k4,k5,k6,k7,k8⟩:=hop
 simp only [OpC.at_] at k0 k1 k2 k3 k4 k5 k6 k7 k8
 have z2:(0:Int)<=(j:Nat):=by omega
 have z3:((j:Nat):Int)<((pn:Nat):Int):=by omega
 have HQ:=J hQ
 clear hQ hj hg hg0
 exact Y13
theorem rs19 (Q:Z) (a:Act) (hfr:Fr 220 a [(0,g),(3,v3),(4,v4),(6,v6),(7,v7),(8,v8),(9,v9),(10,b5)]) (hb:Blk w b5 45 (oC o.n o.epoch o.kind o.site o.client o.seq o.name o.size oA on oc)) (hQ:∀ a',Fr 220 a' [(0,g),(3,v3),(4,v4),(6,v6),(7,v7),(8,v8),(9,v9),(10,b5)]->Q .normal a' (w.setCell ⟨b5,8,none⟩ (.slice none 0 0))) :
 (part [1,1,1,1,1,1,0,1,0,0,1,0,0,1,1,1,0,1,0,0,1,0,0,1,0] (codeOf rshipFF)).wp prog Q a w:=by
 exact Y234
section
variable (hg:Blk w g 62 cs) (hg0:cs[0]? = some (.slice pA pn pc))
include hg hg0
theorem rs16_yes (hj:j<pn) (Q:Z) (a:Act) (hfr:Fr 220 a [(0,g),(3,v3),(4,v4),(6,v6),(7,v7),(8,v8),(9,.int .i64 (j:Nat))]) (hQ:∀ a',Fr 220 a' [(0,g),(3,v3),(4,v4),(6,v6),(7,v7),(8,v8),(9,.int .i64 (j:Nat))]->Q .normal a' w):(part [1,1,1,1,1,1,0,1,0,0,1,0,0,1,1,1,0,1,0,0,0] (codeOf rshipFF)).wp prog Q a w:=by
 have g0:=hg.cell 0
 rw [hg0] at g0
 have d1:decide ((j:Int)<(pn:Int))=true:=decide_eq_true (by omega)
 have d2:decide (j<pn)=true:=decide_eq_true hj
 have HQ:=J hQ
 clear hQ hg hg0 hj
 exact Y13
theorem rs16_no (hj:pn<=j) (Q:Z) (a:Act) (hfr:Fr 220 a [(0,g),(3,v3),(4,v4),(6,v6),(7,v7),(8,v8),(9,.int .i64 (j:Nat))]) (hQ:∀ a',Fr 220 a' [(0,g),(3,v3),(4,v4),(6,v6),(7,v7),(8,v8)]->Q (.exit 2) a' w):(part [1,1,1,1,1,1,0,1,0,0,1,0,0,1,1,1,0,1,0,0,0] (codeOf rshipFF)).wp prog Q a w:=by
 have g0:=hg.cell 0
 rw [hg0] at g0
 have d1:decide ((j:Int)<(pn:Int))=false:=decide_eq_false (by omega)
 have d2:decide (j<pn)=false:=decide_eq_false (by omega)
 have HQ:=J hQ
 clear hQ hg hg0 hj
 exact Y13
end
theorem rs17 (hj:j<1000000) (Q:Z) (a:Act) (hfr:Fr 220 a [(0,g),(3,v3),(4,v4),(6,v6),(7,v7),(8,v8),(9,.int .i64 (j:Nat))]) (hQ:∀ a',Fr 220 a' [(0,g),(3,v3),(4,v4),(6,v6),(7,v7),(8,v8),(9,.int .i64 ((j+1:Nat):Nat))]->Q .normal a' w):(part [1,1,1,1,1,1,0,1,0,0,1,0,0,1,1,1,0,1,0,0,1,1] (codeOf rshipFF)).wp prog Q a w:=by
 exact Y215
end
end
def RsI (w:World) (B:Nat) (X:Nat->Prop) (g:Nat) (os:List OpC) (pA:O) (pn pc:Nat) (lA:O) (ln m:Nat) (fence st:Int) (v3 v4 v6 v7 v8:Value) (a:Act) (w':World):Prop:=
 ∃ (j:Nat) (lA':O) (lc':Nat),m<=j/\j<=pn/\Fr 220 a [(0,g),(3,v3),(4,v4),(6,v6),(7,v7),(8,v8),(9,.int .i64 (j:Nat))]/\RLed w' B X g os pA pn pc lA' (ln+(j-m)) lc' fence st/\
  Kept (fun b=>b≠g/\some b≠ob lA) w w'/\Below B w w'/\∀ q,ob lA'=some q->ob lA=some q\/w.heap.size<=q
def muRs (pn:Nat) (a:Act):Nat:=pn-(match at_ a.tmps 9 with|.int _ z=>z.toNat|_=>0)
theorem rs_loop {w:World} {B:Nat} {X:Nat->Prop} {g m:Nat} {os:List OpC} {pA:O} {pn pc:Nat} {lA:O} {ln lc:Nat} {fence st:Int} {v3 v4 v6 v7 v8:Value} (h:RLed w B X g os pA pn pc lA ln lc fence st) (hm:m<=pn) (hln:ln+pn<=1000000) (hB:B<=w) (Q:Z) (a:Act) (hfr:Fr 220 a [(0,g),(3,v3),(4,v4),(6,v6),(7,v7),(8,v8),(9,.int .i64 (m:Nat))]) (hQ:∀ a' W lA' lc',Fr 220 a' [(0,g),(3,v3),(4,v4),(6,v6),(7,v7),(8,v8)]->RLed W B X g os pA pn pc lA' (ln+(pn-m)) lc' fence st->Kept (fun b=>b≠g/\some b≠ob lA) w W->Below B w W->(∀ q,ob lA'=some q->ob lA=some q\/w.heap.size<=q)->Q .normal a' W) :
 (part [1,1,1,1,1,1,0,1,0,0,1,0,0,1,1,1,0,1] (codeOf rshipFF)).wp prog Q a w:=by
 have hgl:=h.blk.lt
 have round:∀ (Q:Z) (hexit:∀ a' W lA' lc',Fr 220 a' [(0,g),(3,v3),(4,v4),(6,v6),(7,v7),(8,v8)]->RLed W B X g os pA pn pc lA' (ln+(pn-m)) lc' fence st->Kept (fun b=>b≠g/\some b≠ob lA) w W->Below B w W->(∀ q,ob lA'=some q->ob lA=some q\/w.heap.size<=q)->Q (.exit 2) a' W)
  (a:Act) (w1:World),RsI w B X g os pA pn pc lA ln m fence st v3 v4 v6 v7 v8 a w1->(∀ a' w',RsI w B X g os pA pn pc lA ln m fence st v3 v4 v6 v7 v8 a' w'/\muRs pn a'<muRs pn a->Q .normal a' w')->(part [1,1,1,1,1,1,0,1,0,0,1,0,0,1,1,1,0,1,0,0] (codeOf rshipFF)).wp prog Q a w1:=by
  intro Q hexit a w1 hI hQ
  obtain⟨j,lA',lc',hmj,hj,hf,hl,hk,hlow,hob⟩:=hI
  refine Ytaipgdhdfpemcaa.w2 ?_
  rcases Nat.lt_or_ge j pn with hj1|hj1
  ·refine rs16_yes hl.blk rfl hj1 _ a hf fun a1 hf1=>?_
   show (part [1,1,1,1,1,1,0,1,0,0,1,0,0,1,1,1,0,1,0,0,1] (codeOf rshipFF)).wp prog Q a1 w1
   obtain⟨ad,o,oA,on,oc,rfl,hab,hck,hop,hss⟩:=hl.row.opsIs.at_ hj1
   refine Ytaipgdhdfpemcaa.w2 ?_
   refine wp_blk (x:=part [1,1,1,1,1,1,0,1,0,0,1,0,0,1,1,1,0,1,0,0,1,0,0] (codeOf rshipFF)) (id:=3) kr ?_
   refine Ytaipgdhdfpemcaa.w2 ?_
   refine rs18 hl.blk rfl _ a1 hf1 hj1 hop fun a2 hf2=>?_
   show (part [1,1,1,1,1,1,0,1,0,0,1,0,0,1,1,1,0,1,0,0,1,0,0,1] (codeOf rshipFF)).wp prog _ a2 _
   refine Ytaipgdhdfpemcaa.w2 ?_
   have hn5:=Blk.new w1 45 (oC o.n o.epoch o.kind o.site o.client o.seq o.name o.size oA on oc)
   refine rs19 _ a2 hf2 hn5 fun a3 hf3=>?_
   show (part [1,1,1,1,1,1,0,1,0,0,1,0,0,1,1,1,0,1,0,0,1,0,0,1,1] (codeOf rshipFF)).wp prog _ a3 _
   have hb12:Below w1 w1 ((w1.alloc (.cells (oC o.n o.epoch o.kind o.site o.client o.seq o.name o.size oA on oc) 45)).setCell ⟨w1.heap.size,8,none⟩ (.slice none 0 0)):=((Below.refl _ _).alloc (Nat.le_refl _) _).setCell (p:=⟨w1.heap.size,8,none⟩) (Nat.le_refl _) _
   have hs1:=hk.1
   have hs2:=hb12.size
   refine rs20 (o:=o) _ a3 hf3 (hl.below hb12) (hn5.set_ 8 (.slice none 0 0)) (fun e=>by have:=(hl.lostLt _ e.symm).2;omega) (by omega) (by omega) fun a4 w4 hf4 hh=>?_
   obtain⟨lA2,lc2,e1,e2,e3,e4⟩:=hh
   have hsw:=hk.1
   have hmono:w.heap.size<=((w1.alloc (.cells (oC o.n o.epoch o.kind o.site o.client o.seq o.name o.size oA on oc) 45)).setCell ⟨w1.heap.size,8,none⟩ (.slice none 0 0)).heap.size:=by omega
   have hcnt:ln+(j-m)+1=ln+(j+1-m):=by omega
   rw [hcnt] at e1
   have next:(part [1,1,1,1,1,1,0,1,0,0,1,0,0,1,1,1,0,1,0,0,1,1] (codeOf rshipFF)).wp prog Q a4 w4:=by
    refine rs17 (by omega) _ a4 ⟨hf4.1,hf4.2.1,hf4.2.2.1,hf4.2.2.2.1,hf4.2.2.2.2.1,hf4.2.2.2.2.2.1,hf4.2.2.2.2.2.2.1,hf4.2.2.2.2.2.2.2.1,hf4.2.2.2.2.2.2.2.2.1,trivial⟩ fun a5 hf5=>hQ a5 w4 ⟨⟨j+1,lA2,lc2,by omega,by omega,hf5,e1,?_,(hlow.trans (hb12.mono (by omega))).trans e3,?_⟩,?_⟩
    ·refine⟨by have:=e2.1;omega,fun b hb hlt=>((e2.2 b ⟨hb.1,fun e=>?_⟩ (by omega)).trans (hb12.block b (by omega))).trans (hk.2 b hb hlt)⟩
     rcases hob b e.symm with q|q
     ·exact hb.2 q.symm
     ·omega
    ·intro q hq
     exact Y156
    ·have q1:at_ a.tmps 9=.int .i64 (j:Nat):=hf.2.2.2.2.2.2.2.2.1
     have q2:at_ a5.tmps 9=.int .i64 ((j+1:Nat):Nat):=hf5.2.2.2.2.2.2.2.2.1
     unfold muRs
     rw [q1,q2]
     exact Y114
   exact next
  ·obtain rfl:j=pn:=by omega
   exact rs16_no hl.blk rfl (Nat.le_refl _) _ a hf fun a2 hf2=>hexit a2 w1 lA' lc' hf2 hl hk hlow hob
 refine wp_blk (x:=part [1,1,1,1,1,1,0,1,0,0,1,0,0,1,1,1,0,1,0] (codeOf rshipFF)) (id:=2) kr ?_
 have el:part [1,1,1,1,1,1,0,1,0,0,1,0,0,1,1,1,0,1,0] (codeOf rshipFF)=Code.loop (part [1,1,1,1,1,1,0,1,0,0,1,0,0,1,1,1,0,1,0,0] (codeOf rshipFF)):=by kernel_rfl
 rw [el]
 refine wp_loop (RsI w B X g os pA pn pc lA ln m fence st v3 v4 v6 v7 v8) (fun a _=>muRs pn a) ⟨m,lA,lc,Nat.le_refl _,hm,hfr,by rw [Nat.sub_self];exact h,Kept.refl _ _,Below.refl _ _,fun q hq=>.inl hq⟩ fun a2 w2 hI=>?_
 exact Y167
end Go.Proofs.Ytaipgdhdfpemcaa
