/- THE WALKS OF THE LANE, part 35. -/
import Derived.Test.YtaipgdhdfpemcaaG32
import Derived.Test.YtaipgdhdfpemcaaG34
namespace Go.Proofs.Ytaipgdhdfpemcaa
set_option linter.all false
open Go.RowKit Go.Proofs.Try
set_option maxRecDepth 100000
set_option maxHeartbeats 4000000
section
variable {fence hE hS settled us:Int} {fo os:List OpC} {B g lc ln m1 m2 n pc pn:Nat} {X:Nat->Prop} {lA pA:O} {w:World}
section
variable (Q:Z) (a:Act) (hfr:Fr 68 a [(0,g),(1,.int .i64 (n:Nat))])
include Q a hfr
theorem pt7 (hg:Blk w g 98 (ledC (.map (some m1)) us (.map (some m2)) hE hS pA pn pc lA ln lc fence settled 65536 64)) (hQ:∀ a' z,Fr 68 a' [(0,g),(1,.int .i64 (n:Nat))]->Q .normal a' (w.setCell ⟨g,8,none⟩ (.int .i64 z))) :
 (part [1,1,0] (codeOf partFF)).wp prog Q a w:=by
 have k8:=hg.cell 8
 have f8:=hg.frozen 8
 simp at k8
 have HQ:=J hQ
 clear hQ hg
 refine gg hfr fun t=>?_
 go_wp2_with fail
 all_goals exact HQ.out _ _ ff
theorem pt8 (h:Led w B X g m1 m2 fo os pA pn pc lA ln lc fence settled) (hn:n<pn) (hpn:pn<=1000) (hB:B<=w) (hQ:∀ a' W A' c' X' m1' m2',Fr 68 a' [(0,g)]->Led W B X' g m1' m2' [] (os.take n) A' n c' lA ln lc fence settled->Kept (fun b=>b≠g) w W->Below B w W->(∀ b,X' b->X b\/w.heap.size<=b)->w.heap.size<=m1'->w.heap.size<=m2'->Q .normal a' W) :
 (part [1,1,1,0] (codeOf partFF)).wp prog Q a w:=by
 obtain⟨ad,o0,oA,on,oc,rfl,-⟩:=h.row.opsIs.at_ (k:=0) (by omega)
 have hl:=h.len
 obtain⟨ds,hown,hov,hX⟩:=h.row
 obtain⟨A',c',e,hcap,hcm,hrd⟩:=own_slice hown
 injection e with e1 _ e2
 subst e1 e2
 have hrd2:Reads w w.heap.size 9 (some ad) n (opsV (ds.take n)):=by
  have hl:ds.length=pn:=by have:=hov.len;omega
  refine⟨by rw [opsV_len,List.length_take];omega,fun hn0=>?_⟩
  obtain⟨ad',q1,q2,q3⟩:=hrd.2 (by omega)
  refine⟨ad',q1,q2,fun j u hu=>q3 j u ?_⟩
  rw [<-opsV_take ds n (by omega)] at hu
  exact Y87
 have k5:=h.fold.blk.c1 5
 obtain⟨HQ,HL,HV,HX,HR,HB⟩:=J6 hQ h hov hX hrd2 hB
 have z1:(0:Int)<=(n:Nat):=by omega
 have z2:((n:Nat):Int)<=((pn:Nat):Int):=by omega
 have z3:((n:Nat):Int)<=((pc:Nat):Int):=by omega
 have z4:((pc:Nat):Int)<=9223372036854775807:=by unfold maxLen at hcm;omega
 clear hQ h hov hX hrd2 hB hown hrd hl
 refine gg hfr fun t=>?_
 go_wp2_with fail
 refine (cloneOps_row ad n pc _ w HR.out (by omega)).mono ?_
 rintro x w1 ⟨A1,c1,rfl,hown,hb1⟩
 obtain⟨HO,HB1⟩:=J2 hown hb1
 clear hown hb1
 dsimp only
 go_wp2_with fail
 refine (freshM_any w1).mono ?_
 rintro x w2 ⟨n1,n2,rfl,hlive,hlast,hne,hs1,hs2,hb2⟩
 have hb12:Below w w w2:=HB1.out.trans (hb2.mono HB1.out.size)
 have hg2:=HL.out.fold.blk.below hb12 HL.out.fold.blk.lt
 obtain⟨y0,y1,y2,y3,y4,y5⟩:=hg2.cs 0 6
 have f0:=hg2.frozen
 obtain⟨HG2,HB2,HB12,H1,H2⟩:=J5 hg2 hb2 hb12 hlive hlast
 have H3:=J (And.intro hne (And.intro hs1 hs2))
 clear hg2 hb2 hb12 hlive hlast hne hs1 hs2
 dsimp only
 go_wp2_with fail
 obtain⟨W,hW⟩:∃ W,W=((((((w2.setCell ⟨g,5,none⟩ (.slice A1 n c1)).setCell ⟨g,0,none⟩ (.map (some n1))).setCell ⟨g,1,none⟩ (.int .i64 0)).setCell ⟨g,2,none⟩ (.map (some n2))).setCell ⟨g,3,none⟩ (.int .i64 0)).setCell ⟨g,4,none⟩ (.int .i64 0)):=⟨_,rfl⟩
 rw [<-hW]
 have hgW:Blk W g 98 (ledC (.map (some n1)) 0 (.map (some n2)) 0 0 A1 n c1 lA ln lc fence settled 65536 64):=by
  rw [hW]
  exact (((((HG2.out.set_ 5 _).set_ 0 _).set_ 1 _).set_ 2 _).set_ 3 _).set_ 4 _
 have hk2:Kept (fun b=>b≠g) w2 W:=by
  rw [hW]
  exact ((((((Kept.refl _ _).set_ ⟨g,5,none⟩ (.inl fun h=>h rfl) _).set_ ⟨g,0,none⟩ (.inl fun h=>h rfl) _).set_ ⟨g,1,none⟩ (.inl fun h=>h rfl) _).set_ ⟨g,2,none⟩ (.inl fun h=>h rfl) _).set_ ⟨g,3,none⟩ (.inl fun h=>h rfl) _).set_ ⟨g,4,none⟩ (.inl fun h=>h rfl) _
 have hl2:Below B w2 W:=by
  have hg:=HL.out.fold.bg
  rw [hW]
  exact ((((((Below.refl _ _).setCell (p:=⟨g,5,none⟩) hg _).setCell (p:=⟨g,0,none⟩) hg _).setCell (p:=⟨g,1,none⟩) hg _).setCell (p:=⟨g,2,none⟩) hg _).setCell (p:=⟨g,3,none⟩) hg _).setCell (p:=⟨g,4,none⟩) hg _
 have hb1:=HB1.out
 have hb12:=HB12.out
 have hBw:=HB.out
 obtain⟨hne,hs1,hs2⟩:=H3.out
 have t1:=H1.out.lt
 have t2:=H2.out.lt
 have hs12:=hb12.size
 have hs3:=hk2.1
 have hs11:=hb1.size
 have hgl:=HL.out.fold.blk.lt
 have hA1:∀ q,ob A1=some q->w.heap.size<=q/\q<w1:=fun q hq=>HO.out.lt q (by rw [ownBlock_slice];exact hq)
 have hkw:Kept (fun b=>b≠g) w W:=(Kept.of _ hb12).trans hk2
 have hb2:=HB2.out
 refine HQ.out _ W A1 c1 (fun b=>X b\/some b=ob A1) n1 n2 ?_ ⟨⟨hgW,(H1.out.keep (hk2.2 n1 (by omega) t1)).same fun _=>rfl,(H2.out.keep (hk2.2 n2 (by omega) t2)).same fun _=>rfl,Below.refl _ _,fun _ _ _ _ _=>rfl,by omega,by omega,hne,HL.out.fold.bg,by omega,by omega⟩,⟨ds.take n,?_,?_,fun q hq=>.inr hq.symm⟩,?_,?_,?_,?_,?_,?_⟩ hkw ((hb12.mono hBw).trans hl2) ?_ (by omega) (by omega)
 ·exact ff
 ·refine ownsRow_low (ownsRow_keep HO.out fun q hq=>?_) hBw
  rw [ownBlock_slice] at hq
  have:=hA1 q hq
  exact (hk2.2 q (by omega) (by omega)).trans (hb2.block q (by omega))
 ·have h1:=(HV.out.take n).mono (S':=fun b=>(X b/\b≠g)/\b<w) fun b hb hx=>⟨⟨hx.1,fun e=>HL.out.ng (e▸hx.1)⟩,hb⟩
  refine (h1.kept (hkw.mono fun b _ h=>h.1.2)).mono fun b _ h=>⟨.inl h.1.1,fun e=>?_⟩
  have:=(hA1 b e.symm).1
  omega
 ·obtain⟨xs,hx⟩:=HL.out.lost
  refine⟨xs,ownsRow_keep hx fun q hq=>?_⟩
  rw [ownBlock_slice] at hq
  exact hkw.2 q (HL.out.nl q hq).2.1 (HL.out.lostLt q hq).2
 ·exact fun h=>h.elim HL.out.ng fun e=>by have:=(hA1 g e.symm).1;omega
 ·exact fun h=>h.elim (fun h=>by have:=(HL.out.xlt _ h).2;omega) fun e=>by have:=(hA1 _ e.symm).2;omega
 ·exact fun h=>h.elim (fun h=>by have:=(HL.out.xlt _ h).2;omega) fun e=>by have:=(hA1 _ e.symm).2;omega
 ·intro q hq
  have h1:=HL.out.nl q hq
  have h2:=(HL.out.lostLt q hq).2
  exact⟨fun h=>h.elim h1.1 fun e=>by have:=(hA1 q e.symm).1;omega,h1.2.1,by omega,by omega⟩
 ·intro b hb
  rcases hb with hb|hb
  ·exact⟨(HL.out.xlt b hb).1,by have:=(HL.out.xlt b hb).2;omega⟩
  ·have:=hA1 b hb.symm
   exact⟨by omega,by omega⟩
 ·intro b hb
  rcases hb with hb|hb
  ·exact .inl hb
  ·exact .inr (hA1 b hb.symm).1
end
end
def OneC (w:World) (R:World->Prop):List Value->World->Prop
 | [],W=>W=w
 | [_],W=>R W
 | _,_=>False
section
variable {ad:Addr} {fence hE hS settled us:Int} {os:List OpC} {vs:List Value} {B g lc ln m1 m2 n pc pn:Nat} {S X:Nat->Prop} {lA pA:O} {W w:World} {R:World->Prop}
theorem OneC.nil_ (h:OneC w R vs W) (hl:vs.length<=0):W=w:=by
 exact Y136
theorem pt9 (Q:Z) (a:Act) (hfr:Fr 68 a [(0,g)]) (h:Led w B X g m1 m2 [] os pA pn pc lA ln lc fence settled) (hfits:∀ x∈os,Fits x) (hfl:os.length<=1000) (hB:B<=w) (hQ:∀ a' W,Fr 68 a' []->(Led W B X g m1 m2 os os pA pn pc lA ln lc fence settled/\Kept (fun b=>¬ (b=g\/b=m1\/b=m2)) w W/\Below B w W)->Q .normal a' W) :
 (part [1,1,1,1] (codeOf partFF)).wp prog Q a w:=by
 have hd:Led w.drew B X g m1 m2 [] os pA pn pc lA ln lc fence settled:=h.keep ⟨Nat.le_refl _,fun _ _ _=>rfl⟩
 have hB':B<=w.drew.heap.size:=hB
 have HQ:=J (show ∀ a' W,Fr 68 a' []->(Led W B X g m1 m2 os os pA pn pc lA ln lc fence settled/\Kept (fun b=>¬ (b=g\/b=m1\/b=m2)) w.drew W/\Below B w.drew W)->Q .normal a' W from fun a' W hf hh=>hQ a' W hf (by obtain⟨h1,h2,h3⟩:=hh;exact⟨h1,h2,⟨h3.os,h3.tape,h3.output,h3.size,h3.block⟩⟩))
 clear h hB hQ
 obtain⟨w0,hw0⟩:∃ w0,w0=w.drew:=⟨_,rfl⟩
 rw [<-hw0] at hd hB' HQ
 obtain⟨HL,HF,HB,HN⟩:=J4 hd hfits hB' hfl
 clear hd hfits hfl hB'
 refine gg hfr fun t=>?_
 generalize w=w1 at hw0 ⊢
 have HW0:=J hw0
 clear hw0
 refine wp_region_chain kr [7] (fun i=>match i with|0=>g|1=>g|2=>g|3=>g|4=>g|5=>.pointer (some ⟨g,5,none⟩)|6=>.slice pA pn pc|_=>undef) (OneC w0 (fun W=>Led W B X g m1 m2 os os pA pn pc lA ln lc fence settled/\Kept (fun b=>¬ (b=g\/b=m1\/b=m2)) w0 W/\Below B w0 W)) (fun _ _=>true) kr kr kr kr ?hS ?hfree ?hlink ?hend
 case hS=>exact HW0.out.symm
 case hfree=>
  intro i o F U vs W ho hni hS hlen hlim hat hoff hd
  have e0:=oo 0 g
  have t0:=act_tmp e0
  obtain⟨qa,qb⟩:=J2 hat hd
  clear hat hoff hd
  match i with
  | 0|3=>
   exact Y66
  | 1=>
   cases ho
   have t60:=act_tmp (fev qa qb 0 60)
   exact vl ⟨rfl,rfl⟩
  | 2=>
   cases ho
   have t61:=act_tmp (fev qa qb 1 61)
   exact vl ⟨rfl,rfl⟩
  | 4=>
   cases ho
   have t63:=act_tmp (fev qa qb 3 63)
   exact vl ⟨rfl,rfl⟩
  | 5=>
   cases ho
   have t64:=act_tmp (fev qa qb 4 64)
   exact vl ⟨rfl,rfl⟩
  | 6=>
   cases ho
   have t65:=act_tmp (fev qa qb 5 65)
   obtain rfl:=hS.nil_ (hlim 0 7 rfl rfl)
   have d0:=HL.out.fold.blk.c1 5
   exact vl ⟨rfl,rfl⟩
  | 7=>
   exact Y81
  | i+8=>exact absurd ho (by simp)
 case hlink=>
  intro k i o F U vs W hk ho hS hvl hat hoff hd
  have:=ot 0 g
  obtain⟨qa,qb⟩:=J2 hat hd
  clear hat hoff hd
  match k with
  | 0=>
   cases hk;cases ho;obtain rfl:=List.eq_nil_of_length_eq_zero hvl;have e62:=fev qa qb 2 62;have t62:=act_tmp e62;have e66:=fev qa qb 6 66;have t66:=act_tmp e66;obtain rfl:=hS;have lt1:=HL.out.fold.blk.lt
   refine wp_enter' 90 #[.pointer (some ⟨g,0,none⟩),.slice pA pn pc] (by unfold execOp;go_simp) ?_
   refine (take_any HL.out.fold HL.out.row.opsIs (fun b h=>⟨fun e=>HL.out.ng (e▸h),fun e=>HL.out.n1 (e▸h),fun e=>HL.out.n2 (e▸h)⟩) (fun o ho=>absurd ho (by simp)) HF.out (by have:=HN.out;simp;omega) HB.out).mono ?_
   rintro e W' ⟨rfl,hf⟩
   rw [List.nil_append] at hf
   exact⟨_,rfl,_,rfl,HL.out.refold hf.low.size hf.others hf.base,⟨hf.low.size,fun b h1 h2=>hf.others b h2 (fun e=>h1 (.inl e)) (fun e=>h1 (.inr (.inl e))) fun e=>h1 (.inr (.inr e))⟩,hf.low⟩
  | k+1=>exact absurd hk (by simp)
 case hend=>
  intro U vs W hS hvl hfr hch
  obtain⟨x0,rfl⟩:=ln1 hvl
  exact Y33
theorem pt1 (Q:Z) (a:Act) (hfr:Fr 68 a [(0,g),(1,.int .i64 (n:Nat))]) (hg:Blk w g 98 (ledC (.map (some m1)) us (.map (some m2)) hE hS (some ad) pn pc lA ln lc fence settled 65536 64)) (hn:n<pn) (hcap:pn<=pc) (hcm:pc<=maxLen) (hQ:∀ a',Fr 68 a' [(0,g),(1,.int .i64 (n:Nat)),(18,.slice (some (ad.add (n*9))) (pn-n) (pc-n)),(19,.int .i64 ((pn-n:Nat):Nat)),(20,.int .i64 (0:Nat))]->Q .normal a' w) :
 (part [1,0,0] (codeOf partFF)).wp prog Q a w:=by
 have k5:=hg.c1 5
 have HQ:=J hQ
 have z1:(0:Int)<=(n:Nat):=by omega
 have z2:((n:Nat):Int)<=((pn:Nat):Int):=by omega
 have z3:((n:Nat):Int)<=((pc:Nat):Int):=by omega
 have z5:((pn:Nat):Int)<=((pc:Nat):Int):=by omega
 have z4:((pc:Nat):Int)<=9223372036854775807:=by unfold maxLen at hcm;omega
 have HN:=J (And.intro hn hcap)
 clear hQ hg hcap hcm hn
 refine gg hfr fun t=>?_
 go_wp2_with fail
 all_goals first|(exfalso;have:=HN.out;omega)|exact HQ.out _ ff
theorem OpsIs.drop_ (h:OpsIs w S (some ad) pn pc os) (hn:n<pn):OpsIs w S (some (ad.add (n*9))) (pn-n) (pc-n) (os.drop n):=by
 obtain⟨ds,h1,h2,h3,h4⟩:=h
 have hdl:ds.length=pn:=by have:=h1.1;rw [opsV_len] at this;omega
 refine⟨ds.drop n,⟨by rw [opsV_len,List.length_drop];omega,fun _=>?_⟩,h2.drop n,by omega,by omega⟩
 obtain⟨ad',e,q1,q2,q3⟩:=h1.2 (by omega)
 injection e with e
 subst e
 refine⟨ad.add (n*9),rfl,by rw [block_of_add];exact q1,by rw [block_of_add];exact q2,fun j u hu=>?_⟩
 rw [<-opsV_drop ds n (by omega),List.getElem?_drop] at hu
 have:=q3 (n*9+j) u hu
 rw [Addr.add_add]
 exact this
end
/- part, as an action -/
theorem part_any {w:World} {B g:Nat} {Y:Nat->Prop} {k:Nat} {os:List OpC} {fence:Int} (n:Nat) (h:LedIs w B g Y k os fence) (hk:k<=900000) (hn:n<=1000000) (hB:B<=w) :
 Calls prog 89 #[.pointer (some ⟨g,0,none⟩),.int .i64 (n:Nat)] w fun x w'=>x=.returned (.tuple #[])/\Acted B g Y (k+80) (os.take n) fence w w':=by
 have h0:=h
 obtain⟨hY,hr,X,m1,m2,pA,pn,pc,lA,ln,lc,st,hl,hX,hln⟩:=h
 have hpn:=hl.len
 have hlen:=hr.len
 have c5:=hl.fold.blk.c1 5
 by_cases hc:pn<=n
 ·have d1:decide ((pn:Int)<=(n:Int))=true:=decide_eq_true (by omega)
  have d2:decide (pn<=n)=true:=decide_eq_true hc
  have ht:os.take n=os:=List.take_of_length_le (by omega)
  rw [ht]
  have HR:=J (Acted.idle (h0.more (Nat.le_add_right k 80)) (Below.refl _ _) hB)
  clear h0 hl hX hln hr hY hpn hlen ht hB hc hk
  go_enter func89,ntmps89
  conv=>arg 2;arg 2;change part [1] (codeOf partFF)
  go_wp2_with fail
  exact bodyPost_ret (results_none rfl _ _ _) rfl ⟨rfl,HR.out⟩
 have d1:decide ((pn:Int)<=(n:Int))=false:=decide_eq_false (by omega)
 have d2:decide (pn<=n)=false:=decide_eq_false hc
 have post:∀ (a:Act),Fr 68 a [(0,g),(1,.int .i64 (n:Nat))]->(part [1] (codeOf partFF)).wp prog (bodyPost prog partFF fun x w'=>x=.returned (.tuple #[])/\Acted B g Y (k+80) (os.take n) fence w w') a w:=by
  intro a hfr
  refine Wt ?_
  refine Wt ?_
  obtain⟨ad,_,_,_,_,rfl,-⟩:=hl.row.opsIs.at_ (k:=0) (by omega)
  have hop:=hl.row.opsIs
  have hcap:=hop
  obtain⟨_,_,_,hcap1,hcap2⟩:=hcap
  refine pt1 _ a hfr hl.fold.blk (by omega) hcap1 hcap2 fun a1 hf1=>?_
  show (part [1,0,1] (codeOf partFF)).wp prog _ a1 w
  refine pt_loop hl (hop.drop_ (n:=n) (by omega)) (by omega) (by omega) hB _ a1 hf1 fun a2 w2 lA2 lc2 hf2 hl2 hk2 hlow2 hob=>?_
  show (part [1,1] (codeOf partFF)).wp prog _ a2 w2
  have s2:=hk2.1
  refine Wt ?_
  refine pt7 _ a2 hf2 hl2.fold.blk fun a3 z hf3=>?_
  show (part [1,1,1] (codeOf partFF)).wp prog _ a3 _
  have hne:∀ b,b≠g->(w2.setCell ⟨g,8,none⟩ (.int .i64 z)).heap[b]? = w2.heap[b]?:=fun b hb=>Below.heap_setCell _ _ _ b hb
  have hsz:(w2.setCell ⟨g,8,none⟩ (.int .i64 z)).heap.size=w2.heap.size:=by simp
  have hl3:=hl2.refold (w':=w2.setCell ⟨g,8,none⟩ (.int .i64 z)) (fo':=os) (fence':=fence) (settled':=z) (by omega) (fun b _ hb _ _=>hne b hb) ⟨hl2.fold.blk.set_ 8 _,hl2.fold.live.keep (hne m1 hl2.fold.n1.symm),hl2.fold.last.keep (hne m2 hl2.fold.n2.symm),Below.refl _ _,fun _ _ _ _ _=>rfl,hl2.fold.n1,hl2.fold.n2,hl2.fold.n3,hl2.fold.bg,hl2.fold.b1,hl2.fold.b2⟩
  refine Wt ?_
  refine pt8 _ a3 hf3 hl3 (by omega) (by omega) (by omega) fun a4 w4 A4 c4 X4 n1 n2 hf4 hl4 hk4 hlow4 hX4 hn1 hn2=>?_
  show (part [1,1,1,1] (codeOf partFF)).wp prog _ a4 w4
  have s4:=hk4.1
  refine pt9 _ a4 hf4 hl4 (hr.take n).fits (by rw [List.length_take];omega) (by omega) fun a5 w5 hf5 hh=>?_
  obtain⟨hl5,hk5,hlow5⟩:=hh
  have s5:=hk5.1
  have hlow3:Below B w2 (w2.setCell ⟨g,8,none⟩ (.int .i64 z)):=(Below.refl _ _).setCell (p:=⟨g,8,none⟩) hl.fold.bg _
  have hgl:=hl.fold.blk.lt
  refine bodyPost_end (results_none rfl _ _ _) hf5.1 ⟨rfl,⟨New.lt hY hB (by omega),hr.take n,X4,n1,n2,A4,n,c4,lA2,ln+(pn-n),lc2,z,hl5,fun b hb=>?_,by omega⟩,?_,((hlow2.trans hlow3).trans hlow4).trans hlow5⟩
  ·have hblt:=(hl5.allLt b hb).2
   rcases hb with hb|hb|hb|hb|hb
   ·rcases hX4 b hb with hb|hb
    ·exact .inl (hX b (.inl hb))
    ·exact .inr ⟨by omega,hblt⟩
   ·exact .inl (hX b (.inr (.inl hb)))
   ·exact .inr ⟨by omega,hblt⟩
   ·exact .inr ⟨by omega,hblt⟩
   ·rcases hob b hb with q|q
    ·exact .inl (hX b (.inr (.inr (.inr (.inr q)))))
    ·exact .inr ⟨q,hblt⟩
  ·refine⟨by omega,fun b hb hlt=>?_⟩
   have bg:b≠g:=fun e=>hb (hX b (.inr (.inl e)))
   have bl:some b≠ob lA:=fun e=>hb (hX b (.inr (.inr (.inr (.inr e.symm)))))
   exact (((hk5.2 b (by omega) (by omega)).trans (hk4.2 b bg (by omega))).trans (hne b bg)).trans (hk2.2 b ⟨bg,bl⟩ hlt)
 have HR:=J post
 clear post h0 hl hX hln hr hY hpn hlen hB hc hk
 go_enter func89,ntmps89
 conv=>arg 2;arg 2;change part [1] (codeOf partFF)
 go_wp2_with fail
 exact HR.out _ ff
end Go.Proofs.Ytaipgdhdfpemcaa
