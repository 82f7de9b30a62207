/- THE WALKS OF THE LANE, part 34. -/
import Derived.Test.YtaipgdhdfpemcaaG21
namespace Go.Proofs.Ytaipgdhdfpemcaa
set_option linter.all false
open Go.RowKit Go.Proofs.Try
set_option maxRecDepth 100000
set_option maxHeartbeats 4000000
@[reducible] noncomputable def partFF:Func:=Try.f89
def LostS (w:World) (B:Nat) (lA:O) (ln:Nat) (C:Array Value) (R:World->Prop):List Value->World->Prop
 | [],W=>W=w
 | [u],W=>u=.slice (some ⟨w.heap.size,0,none⟩) 1 1/\W=w.alloc (.cells C 45)
 | [_,u],W=>∃ lA' lc',u=.slice lA' (ln+1) lc'/\(∃ xs,W.ownsRow B 45 9 (.slice lA' (ln+1) lc') (ln+1) xs)/\(ob lA'=ob lA\/ob lA'=some (w.heap.size+1))/\Kept (fun b=>some b≠ob lA) w W/\Below B w W
 | [_,_,_],W=>R W
 | _,_=>False
section
variable {C:Array Value} {fence settled:Int} {fo os:List OpC} {vs:List Value} {B b5 g lc ln m1 m2 pc pn:Nat} {X:Nat->Prop} {lA pA:O} {o:OpC} {v1 v18 v19 v20:Value} {W w:World} {R:World->Prop}
theorem LostS.kept (h:LostS w B lA ln C R vs W) (hl:vs.length<=2):Kept (fun b=>some b≠ob lA) w W:=by
 rcases vs with _|⟨u,_|⟨v,_|⟨x,l⟩⟩⟩
 ·obtain rfl:=h;exact Kept.refl _ _
 ·obtain⟨_,rfl⟩:=h;exact (Kept.refl _ _).alloc _
 ·obtain⟨_,_,_,_,_,h,_⟩:=h;exact h
 ·simp at hl
theorem pt5 (Q:Z) (a:Act) (hfr:Fr 68 a [(0,g),(1,v1),(5,b5),(18,v18),(19,v19),(20,v20)]) (h:Led w B X g m1 m2 fo os pA pn pc lA ln lc fence settled) (hb5:Blk w b5 45 (oC o.n o.epoch o.kind o.site o.client o.seq o.name o.size none 0 0)) (h5:some b5≠ob lA) (hln:ln<=1000000) (hB:B<=w) (hQ:∀ a' W,Fr 68 a' [(0,g),(1,v1),(5,b5),(18,v18),(19,v19),(20,v20)]->(∃ lA' lc',Led W B X g m1 m2 fo os pA pn pc lA' (ln+1) lc' fence settled/\Kept (fun b=>b≠g/\some b≠ob lA) w W/\Below B w W/\(ob lA'=ob lA\/ob lA'=some (w.heap.size+1)))->Q .normal a' W) :
 (part [1,0,1,0,0,1,1,0,0,1,1] (codeOf partFF)).wp prog Q a w:=by
 have hd:Led w.drew B X g m1 m2 fo os pA pn pc lA ln lc fence settled:=h.keep ⟨Nat.le_refl _,fun _ _ _=>rfl⟩
 have ho:Blk w.drew b5 45 (oC o.n o.epoch o.kind o.site o.client o.seq o.name o.size none 0 0):=hb5
 have hB':B<=w.drew.heap.size:=hB
 have hng:some g≠ob lA:=fun e=>(h.nl g e.symm).2.1 rfl
 have HQ:=J (show ∀ a' W,Fr 68 a' [(0,g),(1,v1),(5,b5),(18,v18),(19,v19),(20,v20)]->(∃ lA' lc',Led W B X g m1 m2 fo os pA pn pc lA' (ln+1) lc' fence settled/\Kept (fun b=>b≠g/\some b≠ob lA) w.drew W/\Below B w.drew W/\(ob lA'=ob lA\/ob lA'=some (w.drew.heap.size+1)))->Q .normal a' W from fun a' W hf hh=>hQ a' W hf (by obtain⟨A',c',h1,h2,h3,h4⟩:=hh;exact⟨A',c',h1,h2,⟨h3.os,h3.tape,h3.output,h3.size,h3.block⟩,h4⟩))
 clear h hb5 hB hQ
 obtain⟨w0,hw0⟩:∃ w0,w0=w.drew:=⟨_,rfl⟩
 rw [<-hw0] at hd ho hB' HQ
 obtain⟨HL,HO,HN5,HNG,HB,HN⟩:=J6 hd ho h5 hng hB' hln
 clear hd ho h5 hB' hln hng
 refine gg hfr fun t=>?_
 generalize w=w1 at hw0 ⊢
 have HW0:=J hw0
 clear hw0
 refine wp_region_chain kr [6,7,10] (fun i=>match i with|0=>g|1=>g|2=>g|3=>.pointer (some ⟨g,6,none⟩)|4=>.slice lA ln lc|5=>.agg #[.int .i64 o.n,o.epoch,o.kind,o.site,o.client,o.seq,.string o.name,o.size,.slice none 0 0]|8=>g|9=>.pointer (some ⟨g,6,none⟩)|_=>undef) (LostS w0 B lA ln (oC o.n o.epoch o.kind o.site o.client o.seq o.name o.size none 0 0) (fun W=>∃ lA' lc',Led W B X g m1 m2 fo os pA pn pc lA' (ln+1) lc' fence settled/\Kept (fun b=>b≠g/\some b≠ob lA) w0 W/\Below B w0 W/\(ob lA'=ob lA\/ob lA'=some (w0.heap.size+1)))) (fun s i=>s==10) kr kr kr kr ?hS ?hfree ?hlink ?hend
 case hS=>exact HW0.out.symm
 case hfree=>
  intro i o F U vs W ho hni hS hlen hlim hat hoff hd
  have e0:=oo 0 g
  have t0:=act_tmp e0
  have e5:=oo 5 b5
  have t5:=act_tmp e5
  obtain⟨qa,qb⟩:=J2 hat hd
  clear hat hoff hd
  match i with
  | 0|1=>
   exact Y66
  | 2=>
   cases ho
   have t27:=act_tmp (fev qa qb 1 27)
   exact vl ⟨rfl,rfl⟩
  | 3=>
   cases ho
   have t28:=act_tmp (fev qa qb 2 28)
   exact vl ⟨rfl,rfl⟩
  | 4=>
   cases ho
   have t29:=act_tmp (fev qa qb 3 29)
   have hk:=hS.kept (hlim 2 10 rfl rfl)
   have hg:=(hk.2 g HNG.out HL.out.fold.blk.lt).trans HL.out.fold.blk
   have d0:=Blk.cell hg 6
   exact Y107
  | 5=>
   cases ho
   have hk:=hS.kept (hlim 2 10 rfl rfl)
   have hb5:=(hk.2 b5 HN5.out HO.out.lt).trans HO.out
   have d0:=Blk.cell hb5 0
   have d1:=Blk.cell hb5 1
   have d2:=Blk.cell hb5 2
   have d3:=Blk.cell hb5 3
   have d4:=Blk.cell hb5 4
   have d5:=Blk.cell hb5 5
   have d6:=Blk.cell hb5 6
   have d7:=Blk.cell hb5 7
   have d8:=Blk.cell hb5 8
   simp at d0 d1 d2 d3 d4 d5 d6 d7 d8
   exact vl ⟨rfl,rfl⟩
  | 6|7|10=>
   exact Y81
  | 8=>
   cases ho
   have t26:=act_tmp (fev qa qb 0 26)
   exact vl ⟨rfl,rfl⟩
  | 9=>
   cases ho
   have t34:=act_tmp (fev qa qb 8 34)
   exact vl ⟨rfl,rfl⟩
  | i+11=>exact absurd ho (by simp)
 case hlink=>
  intro k i o F U vs W hk ho hS hvl hat hoff hd
  have:=ot 0 g
  have:=ot 5 b5
  obtain⟨qa,qb⟩:=J2 hat hd
  clear hat hoff hd
  match k with
  | 0=>
   cases hk;cases ho;obtain rfl:=List.eq_nil_of_length_eq_zero hvl;have e31:=fev qa qb 5 31;have t31:=act_tmp e31;obtain rfl:=hS
   exact wp_value' (.slice (some ⟨W.heap.size,0,none⟩) 1 1) (W.alloc (.cells (oC o.n o.epoch o.kind o.site o.client o.seq o.name o.size none 0 0) 45)) (by unfold execOp;go_simp) ⟨_,rfl,rfl,rfl⟩
  | 1=>
   cases hk;cases ho;obtain⟨u0,rfl⟩:=ln1 hvl;have e30:=fev qa qb 4 30;have t30:=act_tmp e30;have e32:=cev qa qb 6 32;have t32:=act_tmp e32;obtain⟨rfl,rfl⟩:=hS;obtain⟨w1,hw1⟩:∃ w1,w1=w0.alloc (.cells (oC o.n o.epoch o.kind o.site o.client o.seq o.name o.size none 0 0) 45):=⟨_,rfl⟩;rw [<-hw1]
   have hb1:Below w0 w0 w1:=by rw [hw1];exact (Below.refl _ _).alloc (Nat.le_refl _) _
   have hz1:w1.heap.size=w0.heap.size+1:=by rw [hw1];simp
   have hblk:Blk w1 w0 45 (oC o.n o.epoch o.kind o.site o.client o.seq o.name o.size none 0 0):=by rw [hw1];exact Blk.new _ _ _
   obtain⟨xs,hlost⟩:=HL.out.lost
   have hlost1:=ownsRow_keep hlost (w':=w1) fun q hq=>hb1.block q (HL.out.lostLt q (by rw [ownBlock_slice] at hq;exact hq)).2
   obtain⟨i0,hi,hz0,hz01,hz02⟩:=info_parts Try.infoOp
   obtain⟨v',w',hrun,ho,hg,hb⟩:=run_append_any (P:=prog) w1 B 28 28 45 i0 _ 9 96 underlying28 hi hz0 hz01 hz02 rfl (by omega) (.slice lA ln lc) ln xs hlost1 w1.heap.size (some ⟨w0.heap.size,0,none⟩) 1 1 (opsV [o.at_ none 0 0]) (hblk.reads (n:=1) (size:=9) rfl) (opsV_one _) (by have:=HN.out;unfold maxLen;omega) (by have:=HN.out;omega) (by have:=HB.out;omega)
   rw [ownBlock_slice] at hg hb;obtain⟨lA',lc',rfl,_⟩:=own_slice ho;rw [ownBlock_slice,hz1] at hb
   refine wp_value' (.slice lA' (ln+1) lc') w' (by unfold execOp;simp [resolve,invoke,builtin,e30,e32,hrun,Result.andThen]) ⟨_,rfl,lA',lc',rfl,⟨_,ho⟩,hb,?_,?_⟩
   ·exact ((Kept.of _ hb1).mono fun _ _ h=>h).grown hg fun q hq=>.inl fun h=>h hq.symm
   ·exact (hb1.mono HB.out).trans (below_grown hg (fun q hq=>(HL.out.lostLt q hq).1) (by have:=HB.out;omega))
  | 2=>
   cases hk;cases ho;obtain⟨u0,u1,rfl⟩:=ln2 hvl;have e35:=fev qa qb 9 35;have t35:=act_tmp e35;have e33:=cev qa qb 7 33;have t33:=act_tmp e33;obtain⟨lA',lc',hu,hlost,hob,hk,hlow⟩:=hS;rw [hu] at e33;have t33:=act_tmp e33;have hg:=(hk.2 g HNG.out HL.out.fold.blk.lt).trans HL.out.fold.blk;have f6:W.frozen? ⟨g,6,none⟩=false:=Blk.frozen hg 6;have d6:=Blk.cell hg 6;simp at d6
   refine wp_skip' (W.setCell ⟨g,6,none⟩ (.slice lA' (ln+1) lc')) (by unfold execOp;go_simp) ⟨_,rfl,lA',lc',?_,?_,hlow.setCell (p:=⟨g,6,none⟩) HL.out.fold.bg _,hob⟩
   rotate_left
   ·exact (hk.mono fun b _ h=>h.2).set_ ⟨g,6,none⟩ (.inl fun h=>h.1 rfl) _
   have hs:=hk.1
   have hne:∀ b,b≠g->(W.setCell ⟨g,6,none⟩ (.slice lA' (ln+1) lc')).heap[b]? = W.heap[b]?:=fun b hb=>Below.heap_setCell _ _ _ b hb
   have hsz:(W.setCell ⟨g,6,none⟩ (.slice lA' (ln+1) lc')).heap.size=W.heap.size:=by simp
   have hX:∀ b,X b->some b≠ob lA:=fun b hb e=>(HL.out.nl b e.symm).1 hb
   have q1:some m1≠ob lA:=fun e=>(HL.out.nl m1 e.symm).2.2.1 rfl
   have q2:some m2≠ob lA:=fun e=>(HL.out.nl m2 e.symm).2.2.2 rfl
   have lt0:=HL.out.fold.blk.lt;have lt1:=HL.out.fold.live.lt;have lt2:=HL.out.fold.last.lt
   have hkg:Kept (fun b=>b≠g/\some b≠ob lA) w0 (W.setCell ⟨g,6,none⟩ (.slice lA' (ln+1) lc')):=(hk.mono fun b _ h=>h.2).set_ ⟨g,6,none⟩ (.inl fun h=>h.1 rfl) _
   have hm1:=hkg.2 m1 ⟨HL.out.fold.n1.symm,q1⟩ lt1;have hm2:=hkg.2 m2 ⟨HL.out.fold.n2.symm,q2⟩ lt2;obtain⟨xs,hx⟩:=hlost
   have hnl:∀ q,ob lA'=some q->(¬ X q/\q≠g/\q≠m1/\q≠m2):=by
    intro q hq
    rcases hob with h|h
    ·exact HL.out.nl q (h▸hq)
    ·rw [h] at hq
     injection hq with hq
     exact⟨fun hxq=>by have:=(HL.out.xlt q hxq).2;omega,by omega,by omega,by omega⟩
   refine⟨⟨Blk.set_ hg 6 _,HL.out.fold.live.keep hm1,HL.out.fold.last.keep hm2,Below.refl _ _,fun _ _ _ _ _=>rfl,HL.out.fold.n1,HL.out.fold.n2,HL.out.fold.n3,HL.out.fold.bg,HL.out.fold.b1,HL.out.fold.b2⟩,HL.out.row.kept (hkg.mono fun b _ h=>⟨fun e=>HL.out.ng (e▸h),hX b h⟩),⟨xs,ownsRow_keep hx fun q hq=>hne q ?_⟩,HL.out.ng,HL.out.n1,HL.out.n2,hnl,fun b hb=>⟨(HL.out.xlt b hb).1,by have:=(HL.out.xlt b hb).2;omega⟩⟩
   rw [ownBlock_slice] at hq;exact (hnl q hq).2.1
  | k+3=>exact absurd hk (by simp)
 case hend=>
  exact Y157
end
section
variable {xs:List Value} {B B' n size:Nat} {e:TypeId} {v:Value} {w:World}
theorem ownsRow_low (h:w.ownsRow B e size v n xs) (hB:B'<=B):w.ownsRow B' e size v n xs:=by
 refine⟨h.1,?_⟩
 rcases h.2 with h1|⟨g,cap,cur,h1,h2,h3,h4⟩
 ·exact .inl h1
 ·exact .inr ⟨g,cap,cur,h1,Nat.le_trans hB h2,h3,h4⟩
theorem cloneOps_row (ad:Addr) (n c:Nat) (os:List Opd) (w:World) (h:Reads w w.heap.size 9 (some ad) n (opsV os)) (hn:n<=4294967296) :
 Calls prog 98 #[.slice (some ad) n c] w fun x w'=>∃ A c',x=.returned (.slice A n c')/\w'.ownsRow w.heap.size 45 9 (.slice A n c') n (opsV os)/\Below w w w':=by
 have HR:=J h
 clear h
 obtain⟨i0,hi0,hz0,hz1,hz2⟩:=info_parts Try.infoOp
 obtain⟨HI,HZ0,HZ1,HZ2⟩:=J4 hi0 hz0 hz1 hz2
 clear hi0 hz0 hz1 hz2
 have q:∀ (w:World),(binOp .eql 28 (.slice (some ad) n c) (.slice none 0 0)).run prog w=.ok (.bool false) w:=fun w=>Lib.run_eql_slice_nil w _ _ (some ad) n c 0 0 underlying28
 go_enter func98,ntmps98
 go_wp2_with (at_builtin;refine wpList_append_any _ rfl (.tmp 5) (.tmp 6) _ rfl w.heap.size 45 i0 _ 9 96 underlying28 HI.out HZ0.out HZ1.out HZ2.out rfl (by omega) (.slice (some ⟨w.heap.size,0,none⟩) 0 0) 0 [] rfl (own_empty w _ 9) w.heap.size (some ad) n c (opsV os) rfl (HR.out.alloc (Nat.le_refl _) _) (opsV_one os) ?c1 ?c2 ?c3 ?_)
 case c1=>unfold maxLen;omega
 case c2=>omega
 case c3=>simp
 intro v1 w2 hown hg hat
 try simp only [Nat.zero_add,List.nil_append] at hown
 have hb2:Below w w w2:=((Below.refl _ _).alloc (Nat.le_refl _) _).grown hg (by simp) (by intro k hk;simp [Value.ownBlock] at hk;omega)
 obtain⟨A1,c1,rfl,_⟩:=own_slice hown
 obtain⟨HB,HO⟩:=J2 hb2 hown
 clear hown hg hat hb2
 go_wp2
 go_ret
 exact⟨A1,c1,rfl,HO.out,HB.out⟩
end
section
variable {g n sn sc:Nat} {v18:Value}
section
variable {ad:Addr} {b5 j oc on:Nat} {oA:O} {o:OpC} {v1 v19 v20:Value} {w:World}
section
variable (Q:Z) (a:Act)
include Q a
theorem pt3 (hfr:Fr 68 a [(0,g),(1,v1),(18,.slice (some ad) sn sc),(19,.int .i64 (sn:Nat)),(20,.int .i64 (j:Nat))]) (hj:j<sn) (hop:OpAt w (ad.add (j*9)) (o.at_ oA on oc)) (hQ:∀ a',Fr 68 a' [(0,g),(1,v1),(5,(w:Nat)),(18,.slice (some ad) sn sc),(19,.int .i64 (sn:Nat)),(20,.int .i64 (j:Nat))]->Q .normal a' (w.alloc (.cells (oC o.n o.epoch o.kind o.site o.client o.seq o.name o.size oA on oc) 45))) :
 (part [1,0,1,0,0,1,1,0,0,0] (codeOf partFF)).wp prog Q a w:=by
 obtain⟨k0,k1,k2,k3,k4,k5,k6,k7,k8⟩:=hop
 simp only [OpC.at_] at k0 k1 k2 k3 k4 k5 k6 k7 k8
 have z2:(0:Int)<=(j:Nat):=by omega
 have z3:((j:Nat):Int)<((sn:Nat):Int):=by omega
 have HQ:=J hQ
 clear hQ hj
 exact Y30
theorem pt4 (hfr:Fr 68 a [(0,g),(1,v1),(5,b5),(18,v18),(19,v19),(20,v20)]) (hb:Blk w b5 45 (oC o.n o.epoch o.kind o.site o.client o.seq o.name o.size oA on oc)) (hQ:∀ a',Fr 68 a' [(0,g),(1,v1),(5,b5),(18,v18),(19,v19),(20,v20)]->Q .normal a' (w.setCell ⟨b5,8,none⟩ (.slice none 0 0))) :
 (part [1,0,1,0,0,1,1,0,0,1,0] (codeOf partFF)).wp prog Q a w:=by
 have k8:=hb.cell 8
 have f8:=hb.frozen 8
 simp at k8
 have HQ:=J hQ
 clear hQ hb
 exact Y30
theorem pt2 (hfr:Fr 68 a [(0,g),(1,v1),(18,v18),(19,.int .i64 (sn:Nat)),(20,.int .i64 (j:Nat))]) (hQ:∀ a',Fr 68 a' [(0,g),(1,v1),(18,v18),(19,.int .i64 (sn:Nat)),(20,.int .i64 (j:Nat)),(21,(decide (j<sn)))]->Q .normal a' w) :
 (part [1,0,1,0,0,0] (codeOf partFF)).wp prog Q a w:=by
 have e:decide ((j:Int)<(sn:Int))=decide (j<sn):=by simp
 obtain⟨HQ,HE⟩:=J2 hQ e
 clear hQ e
 refine gg hfr fun t=>?_
 go_wp2_with fail
 exact HQ.out _ ⟨rfl,rfl,rfl,rfl,rfl,rfl,rfl,by first|rfl|exact congrArg Value.bool HE.out,trivial⟩
theorem pt6 (hfr:Fr 68 a [(0,g),(1,v1),(18,v18),(19,v19),(20,.int .i64 (j:Nat))]) (hj:j<1000000) (hQ:∀ a',Fr 68 a' [(0,g),(1,v1),(18,v18),(19,v19),(20,.int .i64 ((j+1:Nat):Nat))]->Q .normal a' w) :
 (part [1,0,1,0,0,1,1,1] (codeOf partFF)).wp prog Q a w:=by
 exact Y161
end
end
end
def PtI (w:World) (B:Nat) (X:Nat->Prop) (g m1 m2:Nat) (os:List OpC) (pA:O) (pn pc:Nat) (lA:O) (ln:Nat) (fence settled:Int) (sad:Addr) (sn sc:Nat) (v1:Value) (a:Act) (w':World):Prop:=
 ∃ (j:Nat) (lA':O) (lc':Nat),j<=sn/\Fr 68 a [(0,g),(1,v1),(18,.slice (some sad) sn sc),(19,.int .i64 (sn:Nat)),(20,.int .i64 (j:Nat))]/\Led w' B X g m1 m2 os os pA pn pc lA' (ln+j) lc' fence settled/\
  Kept (fun b=>b≠g/\some b≠ob lA) w w'/\Below B w w'/\∀ q,ob lA'=some q->ob lA=some q\/w.heap.size<=q
def muPt (sn:Nat) (a:Act):Nat:=sn-(match at_ a.tmps 20 with|.int _ z=>z.toNat|_=>0)
theorem pt_loop {w:World} {B:Nat} {X:Nat->Prop} {g m1 m2:Nat} {os cs:List OpC} {pA:O} {pn pc:Nat} {lA:O} {ln lc:Nat} {fence settled:Int} {sad:Addr} {sn sc:Nat} {v1:Value} (h:Led w B X g m1 m2 os os pA pn pc lA ln lc fence settled) (hs:OpsIs w X (some sad) sn sc cs) (hln:ln+sn<=1000000) (hsn:sn<=1000) (hB:B<=w) (Q:Z) (a:Act) (hfr:Fr 68 a [(0,g),(1,v1),(18,.slice (some sad) sn sc),(19,.int .i64 (sn:Nat)),(20,.int .i64 (0:Nat))]) (hQ:∀ a' W lA' lc',Fr 68 a' [(0,g),(1,v1)]->Led W B X g m1 m2 os os pA pn pc lA' (ln+sn) lc' fence settled->Kept (fun b=>b≠g/\some b≠ob lA) w W->Below B w W->(∀ q,ob lA'=some q->ob lA=some q\/w.heap.size<=q)->Q .normal a' W) :
 (part [1,0,1] (codeOf partFF)).wp prog Q a w:=by
 have hgl:=h.fold.blk.lt
 have hXk:∀ b,X b->b≠g/\some b≠ob lA:=fun b hb=>⟨fun e=>h.ng (e▸hb),fun e=>(h.nl b e.symm).1 hb⟩
 have round:∀ (Q:Z) (hexit:∀ a' W lA' lc',Fr 68 a' [(0,g),(1,v1)]->Led W B X g m1 m2 os os pA pn pc lA' (ln+sn) lc' fence settled->Kept (fun b=>b≠g/\some b≠ob lA) w W->Below B w W->(∀ q,ob lA'=some q->ob lA=some q\/w.heap.size<=q)->Q (.exit 0) a' W)
  (a:Act) (w1:World),PtI w B X g m1 m2 os pA pn pc lA ln fence settled sad sn sc v1 a w1->(∀ a' w',PtI w B X g m1 m2 os pA pn pc lA ln fence settled sad sn sc v1 a' w'/\muPt sn a'<muPt sn a->Q .normal a' w')->(part [1,0,1,0,0] (codeOf partFF)).wp prog Q a w1:=by
  intro Q hexit a w1 hI hQ
  obtain⟨j,lA',lc',hj,hf,hl,hk,hlow,hob⟩:=hI
  refine Wt ?_
  refine pt2 _ a hf fun a1 hf1=>?_
  show (part [1,0,1,0,0,1] (codeOf partFF)).wp prog Q a1 w1
  refine Wt ?_
  refine wp_if (x:=part [1,0,1,0,0,1,0,0] (codeOf partFF)) (y:=part [1,0,1,0,0,1,0,1] (codeOf partFF)) (o:=.tmp 21) kr (eval_at hf1.2.2.2.2.2.2.2.1 rfl) (fun ht=>?_) fun ht=>?_
  ·have hj1:j<sn:=of_decide_eq_true ht
   refine wp_nop kr ?_
   obtain⟨ad,o,oA,on,oc,e,hab,hck,hop,hss⟩:=(hs.kept (hk.mono fun b _ hb=>hXk b hb)).at_ hj1
   injection e with e
   subst e
   show (part [1,0,1,0,0,1,1] (codeOf partFF)).wp prog Q a1 w1
   refine Wt ?_
   refine wp_blk (x:=part [1,0,1,0,0,1,1,0,0] (codeOf partFF)) (id:=1) kr ?_
   refine Wt ?_
   refine pt3 _ a1 ⟨hf1.1,hf1.2.1,hf1.2.2.1,hf1.2.2.2.1,hf1.2.2.2.2.1,hf1.2.2.2.2.2.1,hf1.2.2.2.2.2.2.1,trivial⟩ hj1 hop fun a2 hf2=>?_
   show (part [1,0,1,0,0,1,1,0,0,1] (codeOf partFF)).wp prog _ a2 _
   refine Wt ?_
   have hn5:=Blk.new w1 45 (oC o.n o.epoch o.kind o.site o.client o.seq o.name o.size oA on oc)
   refine pt4 _ a2 hf2 hn5 fun a3 hf3=>?_
   show (part [1,0,1,0,0,1,1,0,0,1,1] (codeOf partFF)).wp prog _ a3 _
   have hb12:Below w1 w1 ((w1.alloc (.cells (oC o.n o.epoch o.kind o.site o.client o.seq o.name o.size oA on oc) 45)).setCell ⟨w1.heap.size,8,none⟩ (.slice none 0 0)):=((Below.refl _ _).alloc (Nat.le_refl _) _).setCell (p:=⟨w1.heap.size,8,none⟩) (Nat.le_refl _) _
   have hs1:=hk.1
   have hs2:=hb12.size
   refine pt5 (o:=o) _ a3 hf3 (hl.below hb12) (hn5.set_ 8 (.slice none 0 0)) (fun e=>by have:=(hl.lostLt _ e.symm).2;omega) (by omega) (by omega) fun a4 w4 hf4 hh=>?_
   obtain⟨lA2,lc2,e1,e2,e3,e4⟩:=hh
   have hbig:w.heap.size<=((w1.alloc (.cells (oC o.n o.epoch o.kind o.site o.client o.seq o.name o.size oA on oc) 45)).setCell ⟨w1.heap.size,8,none⟩ (.slice none 0 0)).heap.size:=by omega
   have next:(part [1,0,1,0,0,1,1,1] (codeOf partFF)).wp prog Q a4 w4:=by
    refine pt6 _ a4 ⟨hf4.1,hf4.2.1,hf4.2.2.1,hf4.2.2.2.1,hf4.2.2.2.2.2.1,hf4.2.2.2.2.2.2.1,hf4.2.2.2.2.2.2.2.1,trivial⟩ (by omega) fun a5 hf5=>hQ a5 w4 ⟨⟨j+1,lA2,lc2,by omega,hf5,e1,?_,(hlow.trans (hb12.mono (by omega))).trans e3,?_⟩,?_⟩
    ·refine⟨by have:=e2.1;omega,fun b hb hlt=>((e2.2 b ⟨hb.1,fun e=>?_⟩ (by omega)).trans (hb12.block b (by omega))).trans (hk.2 b hb hlt)⟩
     rcases hob b e.symm with q|q
     ·exact hb.2 q.symm
     ·omega
    ·intro q hq
     rcases e4 with h4|h4
     ·exact hob q (h4▸hq)
     ·rw [h4] at hq
      injection hq with hq
      exact .inr (by omega)
    ·have q1:at_ a.tmps 20=.int .i64 (j:Nat):=hf.2.2.2.2.2.2.1
     have q2:at_ a5.tmps 20=.int .i64 ((j+1:Nat):Nat):=hf5.2.2.2.2.2.2.1
     unfold muPt
     rw [q1,q2]
     simp only [Int.toNat_natCast]
     omega
   exact next
  ·have hj1:¬ j<sn:=of_decide_eq_false ht
   obtain rfl:j=sn:=by omega
   have e:part [1,0,1,0,0,1,0,1] (codeOf partFF)=Code.exit 0:=by kernel_rfl
   rw [e]
   exact wp_exit (hexit a1 w1 lA' lc' ⟨hf1.1,hf1.2.1,hf1.2.2.1,hf1.2.2.2.1,trivial⟩ hl hk hlow hob)
 refine wp_blk (x:=part [1,0,1,0] (codeOf partFF)) (id:=0) kr ?_
 have el:part [1,0,1,0] (codeOf partFF)=Code.loop (part [1,0,1,0,0] (codeOf partFF)):=by kernel_rfl
 rw [el]
 refine wp_loop (PtI w B X g m1 m2 os pA pn pc lA ln fence settled sad sn sc v1) (fun a _=>muPt sn a) ⟨0,lA,lc,Nat.zero_le _,hfr,h,Kept.refl _ _,Below.refl _ _,fun q hq=>.inl hq⟩ fun a2 w2 hI=>?_
 refine round _ ?_ a2 w2 hI ?_
 ·intro a' W lA' lc' h1 h2 h3 h4 h5
  exact hQ a' W lA' lc' h1 h2 h3 h4 h5
 ·exact fun a' w' hh=>hh
end Go.Proofs.Ytaipgdhdfpemcaa
