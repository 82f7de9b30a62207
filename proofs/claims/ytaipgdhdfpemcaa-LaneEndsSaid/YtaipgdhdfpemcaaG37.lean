/- THE WALKS OF THE LANE, part 37. -/
import Derived.Test.YtaipgdhdfpemcaaG35
import Derived.Test.YtaipgdhdfpemcaaG36
namespace Go.Proofs.Ytaipgdhdfpemcaa
set_option linter.all false
open Go.RowKit Go.Proofs.Try
set_option maxRecDepth 100000
set_option maxHeartbeats 4000000
section
variable {w wb W:World} {B g:Nat} {Y S:Nat->Prop} {k:Nat} {os:List OpC} {epoch0:Int} {kind epoch site:Int} {o:OpC} {hA:O} {hn hc:Nat} {after since:Int} {qA:O} {qn qc:Nat} {tag:Int} {ops:List OpC} {N E:Int}
section
variable {K:Act->World->Prop} {ad:Addr} {cs:Array Value} {G:Ending->World->Prop} {b9 i j oc on pc pn sc sn yc yn:Nat} {oA yA:O} {x y:OpC} {v8:Value}
theorem sh13_all (h:ShipAt w wb W B g Y S k os epoch0 (cmdC kind epoch site o hA hn hc after since qA qn qc tag) qA qn qc ops N E) (Q:Z) (a:Act) (hfr:Fr 147 a [(0,g),(3,(w:Nat)),(4,(w.heap.size+1:Nat)),(5,(w.heap.size+2:Nat)),(6,.int .i64 (qn:Nat))]) (hQ:∀ a',Fr 147 a' [(0,g),(3,(w:Nat)),(4,(w.heap.size+1:Nat)),(5,(w.heap.size+2:Nat))]->Q .normal a' W):(part [1,1,1,1,1,1,1,1,0] (codeOf shipLF)).wp prog Q a W:=by
 have k14:=h.h5.c1 14
 obtain⟨_,hrs,_,hcap,hcm⟩:=h.hops
 have hrs2:=hrs.2
 have z1:(0:Int)<=(qn:Nat):=by omega
 have z3:((qn:Nat):Int)<=((qc:Nat):Int):=by omega
 have z4:((qc:Nat):Int)<=9223372036854775807:=by unfold maxLen at hcm;omega
 obtain⟨HQ,HR⟩:=J2 hQ hrs2
 clear hQ h hrs hrs2 hcm hcap
 cases qA with
 | none=>
  rcases Nat.eq_zero_or_pos qn with h0|h0
  ·subst h0
   refine gg hfr fun t=>?_
   go_wp2_with fail
   all_goals exact HQ.out _ ff
  ·obtain⟨ad,e,_⟩:=HR.out h0
   cases e
 | some ad=>
  refine gg hfr fun t=>?_
  go_wp2_with fail
  all_goals exact HQ.out _ ff
theorem sh13 (h:ShipAt w wb W B g Y S k os epoch0 (cmdC kind epoch site o hA hn hc after since (some ad) qn qc tag) (some ad) qn qc ops N E) (hj:j<qn) (Q:Z) (a:Act) (hfr:Fr 147 a [(0,g),(3,(w:Nat)),(4,(w.heap.size+1:Nat)),(5,(w.heap.size+2:Nat)),(6,.int .i64 (j:Nat))]) (hQ:∀ a',Fr 147 a' [(0,g),(3,(w:Nat)),(4,(w.heap.size+1:Nat)),(5,(w.heap.size+2:Nat)),(8,.slice (some (ad.add (j*9))) (qn-j) (qc-j))]->Q .normal a' W):(part [1,1,1,1,1,1,1,1,0,0] (codeOf shipLF)).wp prog Q a W:=by
 have k14:=h.h5.c1 14
 obtain⟨_,hrs,_,hcap,hcm⟩:=h.hops
 have z1:(0:Int)<=(j:Nat):=by omega
 have z2:((j:Nat):Int)<=((qn:Nat):Int):=by omega
 have z3:((j:Nat):Int)<=((qc:Nat):Int):=by omega
 have z5:((qn:Nat):Int)<=((qc:Nat):Int):=by omega
 have z4:((qc:Nat):Int)<=9223372036854775807:=by unfold maxLen at hcm;omega
 have HQ:=J hQ
 have HN:=J (And.intro hj hcap)
 clear hQ h hrs hcm hcap hj
 refine gg hfr fun t=>?_
 go_wp2_with fail
 all_goals first|(exfalso;have:=HN.out;omega)|exact HQ.out _ ff
theorem sh14 (hsn:0<sn) (Q:Z) (a:Act) (hfr:Fr 147 a [(0,g),(3,(w:Nat)),(4,(w.heap.size+1:Nat)),(5,(w.heap.size+2:Nat)),(8,.slice (some ad) sn sc)]) (hQ:∀ a',Fr 147 a' [(0,g),(3,(w:Nat)),(4,(w.heap.size+1:Nat)),(5,(w.heap.size+2:Nat)),(8,.slice (some ad) sn sc),(91,true)]->Q .normal a' W):(part [1,1,1,1,1,1,1,1,0,1,0] (codeOf shipLF)).wp prog Q a W:=by
 have d1:decide ((0:Int)<((sn:Nat):Int))=true:=decide_eq_true (by omega)
 have d2:decide (0<sn)=true:=decide_eq_true (by omega)
 have HQ:=J hQ
 clear hQ hsn
 refine gg hfr fun t=>?_
 go_wp2_with fail
 exact HQ.out _ ⟨rfl,rfl,rfl,rfl,rfl,rfl,rfl,by first|rfl|exact congrArg Value.bool d2,trivial⟩
theorem sh15 (hsn:0<sn) (hop:OpAt W ad (x.at_ oA on oc)) (Q:Z) (a:Act) (hfr:Fr 147 a [(0,g),(3,(w:Nat)),(4,(w.heap.size+1:Nat)),(5,(w.heap.size+2:Nat)),(8,.slice (some ad) sn sc)]) (hQ:∀ a',Fr 147 a' [(0,g),(3,(w:Nat)),(4,(w.heap.size+1:Nat)),(5,(w.heap.size+2:Nat)),(8,.slice (some ad) sn sc),(9,(W:Nat))]->Q .normal a' (W.alloc (.cells (oC x.n x.epoch x.kind x.site x.client x.seq x.name x.size oA on oc) 45))) :
 (part [1,1,1,1,1,1,1,1,0,1,1,0,0] (codeOf shipLF)).wp prog Q a W:=by
 obtain⟨c0,c1,c2,c3,c4,c5,c6,c7,c8⟩:=hop
 simp only [OpC.at_] at c0 c1 c2 c3 c4 c5 c6 c7 c8
 have z3:(0:Int)<((sn:Nat):Int):=by omega
 have HQ:=J hQ
 clear hQ
 exact Y30
section
variable (h:ShipAt w wb W B g Y S k os epoch0 (cmdC kind epoch site o hA hn hc after since qA qn qc tag) qA qn qc ops N E) (hb:Blk W b9 45 (oC x.n x.epoch x.kind x.site x.client x.seq x.name x.size oA on oc))
include h hb
theorem sh16_reign (hk:(x.kind != 3)=false) (hK:∀ a' W',Fr 147 a' [(0,g),(3,(w:Nat)),(4,(w.heap.size+1:Nat)),(5,(w.heap.size+2:Nat)),(8,v8),(9,b9)]->Below W W W'->K a' W') (a:Act) (hfr:Fr 147 a [(0,g),(3,(w:Nat)),(4,(w.heap.size+1:Nat)),(5,(w.heap.size+2:Nat)),(8,v8),(9,b9)]) :
 (part [1,1,1,1,1,1,1,1,0,1,1,0,1,0] (codeOf shipLF)).wp prog (Exit.then K (bodyPost prog shipLF G)) a W:=by
 have HS:=J h
 have o0:=hb.c1 0
 obtain⟨o2,o3⟩:=hb.cs 2 2
 exact Y96
section
variable (hy:Blk W g 98 cs) (h5:cs[5]? = some (.slice (some ad) pn pc)) (hop:OpAt W (ad.add (i*9)) (y.at_ yA yn yc)) (hi:i<pn) (hi2:i<=1000) (hni:x.n=(i:Int)+2) (hk:(x.kind != 3)=true)
include hy h5 hop hi hi2 hni hk
theorem sh16_ok (hs:(y.site != x.site)=false) (hK:∀ a' W',Fr 147 a' [(0,g),(3,(w:Nat)),(4,(w.heap.size+1:Nat)),(5,(w.heap.size+2:Nat)),(8,v8),(9,b9)]->Below W W W'->K a' W') (a:Act) (hfr:Fr 147 a [(0,g),(3,(w:Nat)),(4,(w.heap.size+1:Nat)),(5,(w.heap.size+2:Nat)),(8,v8),(9,b9)]) :
 (part [1,1,1,1,1,1,1,1,0,1,1,0,1,0] (codeOf shipLF)).wp prog (Exit.then K (bodyPost prog shipLF G)) a W:=by
 have HS:=J h
 have o0:=hb.c1 0
 obtain⟨o2,o3⟩:=hb.cs 2 2
 have g5:=hy.cell 5
 rw [h5] at g5
 obtain⟨c0,c1,c2,c3,c4,c5,c6,c7,c8⟩:=hop
 simp only [OpC.at_] at c3
 have z1:IntKind.i64.wrap (x.n-2)=(i:Nat):=by rw [IntKind.wrap_i64];omega
 have z2:(0:Int)<=(i:Nat):=by omega
 have z3:((i:Nat):Int)<((pn:Nat):Int):=by omega
 clear c0 c1 c2 c4 c5 c6 c7 c8 hi hi2 hni hy h5
 exact Y96
theorem sh16_gap (hs:(y.site != x.site)=true) (a:Act) (hfr:Fr 147 a [(0,g),(3,(w:Nat)),(4,(w.heap.size+1:Nat)),(5,(w.heap.size+2:Nat)),(8,v8),(9,b9)]) :
 (part [1,1,1,1,1,1,1,1,0,1,1,0,1,0] (codeOf shipLF)).wp prog (Exit.then K (bodyPost prog shipLF fun e w'=>(∃ u n ep,e=.returned (doneV u n ep))/\Acted B g Y k os epoch0 w w')) a W:=by
 have HS:=J h
 have o0:=hb.c1 0
 obtain⟨o2,o3⟩:=hb.cs 2 2
 have g5:=hy.cell 5
 rw [h5] at g5
 obtain⟨c0,c1,c2,c3,c4,c5,c6,c7,c8⟩:=hop
 simp only [OpC.at_] at c3
 have z1:IntKind.i64.wrap (x.n-2)=(i:Nat):=by rw [IntKind.wrap_i64];omega
 have z2:(0:Int)<=(i:Nat):=by omega
 have z3:((i:Nat):Int)<((pn:Nat):Int):=by omega
 clear c0 c1 c2 c4 c5 c6 c7 c8 hi hi2 hni hy h5
 clear h hb
 refine gg hfr fun t=>?_
 go_wp2_with fail
 go_quiet (fail)
 go_wp2_with fail
 refine (failed_any _ _).mono ?_
 rintro e w2 ⟨rfl,hb2⟩
 have hb2':Below W W w2:=⟨hb2.os,hb2.tape,hb2.output,hb2.size,hb2.block⟩
 have hs2:=HS.out.below hb2'
 have h82:=hs2.h8
 obtain⟨Wz,HWW,z0,z1,z2,HKK,HLL,y0,y1,y2,f0⟩:=de h82 121 0 0
 have HH:=J hs2
 clear hb2 hb2' hs2
 exact Y117
end
end
end
end
theorem Led.row_ {w0 W:World} {B:Nat} {X:Nat->Prop} {g m1 m2:Nat} {fo os os':List OpC} {pA A':O} {pn pc n' c':Nat} {lA:O} {ln lc:Nat} {fence settled:Int} (h:Led w0 B X g m1 m2 fo os pA pn pc lA ln lc fence settled) (h1:RowIs W B (New X w0 W) A' n' c' os') (h2:Kept (fun b=>¬ X b) w0 W) (h3:Below B w0 W) (hB:B<=w0) :
 Led (W.setCell ⟨g,5,none⟩ (.slice A' n' c')) B (New X w0 W) g m1 m2 fo os' A' n' c' lA ln lc fence settled/\Kept (fun b=>¬ X b/\b≠g) w0 (W.setCell ⟨g,5,none⟩ (.slice A' n' c'))/\Below B w0 (W.setCell ⟨g,5,none⟩ (.slice A' n' c')):=by
 have hg:=(h2.2 g h.ng h.fold.blk.lt).trans h.fold.blk
 refine⟨?_,(h2.mono fun b _ h=>h.1).set_ ⟨g,5,none⟩ (.inl fun h=>h.2 rfl) _,h3.setCell (p:=⟨g,5,none⟩) h.fold.bg _⟩
 have hne:∀ b,b≠g->(W.setCell ⟨g,5,none⟩ (.slice A' n' c')).heap[b]? = W.heap[b]?:=fun b hb=>Below.heap_setCell _ _ _ b hb
 have hk:Kept (fun b=>b≠g) W (W.setCell ⟨g,5,none⟩ (.slice A' n' c')):=(Kept.refl _ _).set_ ⟨g,5,none⟩ (.inl fun h=>h rfl) _
 have ng':¬ New X w0 W g:=fun h'=>h'.elim h.ng fun h'=>by have:=h.fold.blk.lt;omega
 have hm1:=h2.2 m1 h.n1 h.fold.live.lt
 have hm2:=h2.2 m2 h.n2 h.fold.last.lt
 obtain⟨xs,hlost⟩:=h.lost
 refine⟨⟨Blk.set_ hg 5 _,(h.fold.live.keep hm1).keep (hne m1 h.fold.n1.symm),(h.fold.last.keep hm2).keep (hne m2 h.fold.n2.symm),Below.refl _ _,fun _ _ _ _ _=>rfl,h.fold.n1,h.fold.n2,h.fold.n3,h.fold.bg,h.fold.b1,h.fold.b2⟩,h1.kept (hk.mono fun b _ h' e=>ng' (e▸h')),⟨xs,ownsRow_keep hlost fun q hq=>?_⟩,ng',?_,?_,?_,?_⟩
 ·rw [ownBlock_slice] at hq
  exact (hne q (h.nl q hq).2.1).trans (h2.2 q (h.nl q hq).1 (h.lostLt q hq).2)
 ·exact fun h'=>h'.elim h.n1 fun h'=>by have:=h.fold.live.lt;omega
 ·exact fun h'=>h'.elim h.n2 fun h'=>by have:=h.fold.last.lt;omega
 ·exact fun q hq=>⟨fun h'=>h'.elim (h.nl q hq).1 fun h'=>by have:=(h.lostLt q hq).2;omega,(h.nl q hq).2⟩
 ·intro b hb
  have e:(W.setCell ⟨g,5,none⟩ (.slice A' n' c')).heap.size=W.heap.size:=by simp
  rw [e]
  rcases hb with hb|hb
  ·exact⟨(h.xlt b hb).1,Nat.lt_of_lt_of_le (h.xlt b hb).2 h2.1⟩
  ·exact⟨Nat.le_trans hB hb.1,hb.2⟩
section
variable {w wb W:World} {B g:Nat} {Y S:Nat->Prop} {k:Nat} {os:List OpC} {epoch0:Int} {C:Array Value} {qA:O} {qn qc:Nat} {ops:List OpC} {N E:Int} {v3 v4 v5 v8:Value}
section
variable {fence settled:Int} {fo more os':List OpC} {b9 lc ln m m1 m2 mc mn oc on pc pn sc sn:Nat} {SM SS X:Nat->Prop} {lA mA oA pA sA:O} {x:OpC} {W0:World}
theorem sh18 (h:ShipAt w wb W B g Y S k os epoch0 C qA qn qc ops N E) (hb:Blk W b9 45 (oC x.n x.epoch x.kind x.site x.client x.seq x.name x.size oA on oc)) (hm:x.n=(m:Int)+1) (hm2:m<=1000) (hk:k<=900000) (Q:Z) (a:Act) (hfr:Fr 147 a [(0,g),(3,v3),(4,v4),(5,v5),(8,v8),(9,b9)]) (hQ:∀ a' W',Fr 147 a' [(0,g),(3,v3),(4,v4),(5,v5),(8,v8)]->ShipAt w wb W' B g Y S (k+80) (os.take m) epoch0 C qA qn qc ops N E->Q .normal a' W') :
 (part [1,1,1,1,1,1,1,1,0,1,1,0,1,1,0] (codeOf shipLF)).wp prog Q a W:=by
 have o0:=hb.c1 0
 have z1:IntKind.i64.wrap (x.n-1)=(m:Nat):=by rw [IntKind.wrap_i64];omega
 obtain⟨HQ,HS⟩:=J2 hQ h
 clear hQ h hb hm
 refine gg hfr fun t=>?_
 go_wp2_with fail
 refine (part_any m HS.out.led hk (by omega) HS.out.hBW).mono ?_
 rintro e w2 ⟨rfl,ha⟩
 have HA:=J (HS.out.acted ha)
 clear ha
 dsimp only
 go_wp2_with fail
 exact HQ.out _ _ ff HA.out
theorem sh19 (hm:OpsIs W SS sA sn sc more) (hsn:sn<=1000) (hok:∀ x∈more,x.Ok) (Q:Z) (a:Act) (hfr:Fr 147 a [(0,g),(3,v3),(4,v4),(5,v5),(8,.slice sA sn sc)]) (hQ:∀ a' W' A' c',Fr 147 a' [(0,g),(3,v3),(4,v4),(5,v5),(10,.slice A' sn c')]->OpsIs W' (From W.heap.size) A' sn c' more->Below W W W'->Q .normal a' W') :
 (part [1,1,1,1,1,1,1,1,0,1,1,0,1,1,1,0] (codeOf shipLF)).wp prog Q a W:=by
 obtain⟨HQ,HM,HO⟩:=J3 hQ hm hok
 clear hQ hm hok
 refine gg hfr fun t=>?_
 go_wp2_with fail
 refine (lown_any sA sn sc more W HM.out (by omega) HO.out).mono ?_
 rintro e w2 ⟨A',c',rfl,h1,h2⟩
 obtain⟨H1,H2⟩:=J2 h1 h2
 clear h1 h2
 dsimp only
 go_wp2_with fail
 exact HQ.out _ _ _ _ ff H1.out H2.out
theorem sh20 (h:Led W0 B X g m1 m2 fo os pA pn pc lA ln lc fence settled) (hb:Below W0 W0 W) (hB:B<=W0) (hm:OpsIs W (From W0.heap.size) mA mn mc more) (hpn:pn<=1000) (hmn:mn<=1000) (Q:Z) (a:Act) (hfr:Fr 147 a [(0,g),(3,v3),(4,v4),(5,v5),(10,.slice mA mn mc)]) (hQ:∀ a' W' A' c' X',Fr 147 a' [(0,g),(3,v3),(4,v4),(5,v5),(10,.slice mA mn mc)]->Led W' B X' g m1 m2 fo (os++more) A' (pn+mn) c' lA ln lc fence settled->Kept (fun b=>¬ X b/\b≠g) W0 W'->Below B W0 W'->(∀ b,X' b->X b\/W0.heap.size<=b)->OpsIs W' (From W0.heap.size) mA mn mc more->Q .normal a' W') :
 (part [1,1,1,1,1,1,1,1,0,1,1,0,1,1,1,1,0] (codeOf shipLF)).wp prog Q a W:=by
 have hL:=h.below hb
 have hsz:=hb.size
 have hrl:=h.row.lt
 have hgl:=h.fold.blk.lt
 have HX:∀ q,ob pA=some q->X q:=by obtain⟨ds,_,_,h3⟩:=h.row;exact h3
 obtain⟨A2,c2,w',hrun,r1,r2,r3⟩:=run_append_row 28 hL.row hm (fun b hb' hx e=>by have h3:=(hrl b e.symm).2;have h4:W0.heap.size<=b:=hx;omega) (by omega) (by omega)
 have hk1:Kept (fun b=>¬ X b) W0 w':=(Kept.of _ hb).grown r2 fun q hq=>.inl fun h=>h (HX q hq)
 have hl1:Below B W0 w':=(hb.mono hB).trans (below_grown r2 (fun q hq=>(hrl q hq).1) (by omega))
 have r1':RowIs w' B (New X W0 w') A2 (pn+mn) c2 (os++more):=r1.mono fun b hb' hx=>by
  rcases hx with hx|hx|hx
  ·exact .inl hx
  ·exact .inr ⟨hx,hb'⟩
  ·rcases r3 with r3|r3
   ·exact .inl (HX b (by rw [<-r3];exact hx))
   ·rw [hx] at r3
    injection r3 with r3
    exact .inr ⟨by omega,hb'⟩
 obtain⟨q1,q2,q3⟩:=h.row_ r1' hk1 hl1 hB
 have hm2:OpsIs (w'.setCell ⟨g,5,none⟩ (.slice A2 (pn+mn) c2)) (From W0.heap.size) mA mn mc more:=by
  refine (hm.kept ((Kept.refl _ _).grown r2 fun q hq=>.inl fun hx=>?_)).kept ((Kept.refl _ _).set_ ⟨g,5,none⟩ (.inl fun hx=>?_) _)
  ·have h3:=(hrl q hq).2
   have h4:W0.heap.size<=q:=hx
   omega
  ·have h4:W0.heap.size<=g:=hx
   omega
 have hgw:=(hk1.2 g h.ng hgl).trans h.fold.blk
 have d5:=Blk.cell hgw 5
 simp at d5
 have f5:w'.frozen? ⟨g,5,none⟩=false:=Blk.frozen hgw 5
 have g5:=hL.fold.blk.c1 5
 have HQ:=J (fun a' hf=>hQ a' _ A2 c2 (New X W0 w') hf q1 q2 q3 (fun b hb=>hb.imp id fun h=>h.1) hm2)
 clear hQ h hb hm hL hrl HX r1 r2 r3 hk1 hl1 r1' q1 q2 q3 hm2 hgw
 refine gg hfr fun t=>?_
 go_wp2_with (at_builtin;refine wpList_value' rfl (.slice A2 (pn+mn) c2) w' (by simp [execOp,resolve,invoke,builtin,Act.eval,hrun,Result.andThen]) ?_)
 exact HQ.out _ ff
theorem sh21 (h:Led W B X g m1 m2 fo os' pA pn pc lA ln lc fence settled) (hB:B<=W) (hm:OpsIs W SM mA mn mc more) (hS:∀ b,SM b->b≠g/\b≠m1/\b≠m2) (hfo:∀ x∈fo,Fits x) (hfm:∀ x∈more,Fits x) (hlen:fo.length+more.length<=1000) (Q:Z) (a:Act) (hfr:Fr 147 a [(0,g),(3,v3),(4,v4),(5,v5),(10,.slice mA mn mc)]) (hQ:∀ a' W',Fr 147 a' [(0,g),(3,v3),(4,v4),(5,v5)]->Led W' B X g m1 m2 (fo++more) os' pA pn pc lA ln lc fence settled->Kept (fun b=>¬ (b=g\/b=m1\/b=m2)) W W'->Below B W W'->Q .normal a' W') :
 (part [1,1,1,1,1,1,1,1,0,1,1,0,1,1,1,1,1] (codeOf shipLF)).wp prog Q a W:=by
 have hc:=take_any h.fold hm hS hfo hfm (by omega) hB
 obtain⟨HQ,HL,HC⟩:=J3 hQ h hc
 clear hQ h hm hS hfo hfm hlen hc
 refine gg hfr fun t=>?_
 go_wp2_with fail
 refine HC.out.mono ?_
 rintro e w2 ⟨rfl,hf⟩
 have q1:=HL.out.refold hf.low.size hf.others hf.base
 have q2:Kept (fun b=>¬ (b=g\/b=m1\/b=m2)) W w2:=⟨hf.low.size,fun b h1 h2=>hf.others b h2 (fun e=>h1 (.inl e)) (fun e=>h1 (.inr (.inl e))) fun e=>h1 (.inr (.inr e))⟩
 obtain⟨H1,H2,H3⟩:=J3 q1 q2 hf.low
 clear q1 q2 hf
 dsimp only
 go_wp2_with fail
 exact HQ.out _ _ ff H1.out H2.out H3.out
theorem sh_more (h:ShipAt w wb W B g Y S k os epoch0 C qA qn qc ops N E) (hm:OpsIs W SS sA sn sc more) (hrows:Rows (os++more)) (Q:Z) (a:Act) (hfr:Fr 147 a [(0,g),(3,v3),(4,v4),(5,v5),(8,.slice sA sn sc)]) (hQ:∀ a' W',Fr 147 a' [(0,g),(3,v3),(4,v4),(5,v5)]->ShipAt w wb W' B g Y S k (os++more) epoch0 C qA qn qc ops N E->Q .normal a' W') :
 (part [1,1,1,1,1,1,1,1,0,1,1,0,1,1,1] (codeOf shipLF)).wp prog Q a W:=by
 have hlen:=hrows.len
 rw [List.length_append] at hlen
 have hml:=hm.len
 have hfm:∀ x∈more,Fits x:=fun x hx=>hrows.fits x (List.mem_append_right _ hx)
 have hfo:∀ x∈os,Fits x:=fun x hx=>hrows.fits x (List.mem_append_left _ hx)
 obtain⟨hY',hr,X,m1,m2,pA,pn,pc,lA,ln,lc,st,hl,hX,hln⟩:=h.led
 have hpn:=hl.len
 have hgl:=hl.fold.blk.lt
 have hl1:=hl.fold.live.lt
 have hl2:=hl.fold.last.lt
 refine Wt ?_
 refine sh19 hm (by omega) (fun x hx=>(hfm x hx).ok) _ a hfr fun a2 w2 A2 c2 hf2 hm2 hb2=>?_
 show (part [1,1,1,1,1,1,1,1,0,1,1,0,1,1,1,1] (codeOf shipLF)).wp prog Q a2 w2
 refine Wt ?_
 refine sh20 hl hb2 h.hBW hm2 (by omega) (by omega) _ a2 hf2 fun a3 w3 A3 c3 X3 hf3 hl3 hk3 hlow3 hX3 hm3=>?_
 show (part [1,1,1,1,1,1,1,1,0,1,1,0,1,1,1,1,1] (codeOf shipLF)).wp prog Q a3 w3
 have s3:=hk3.1
 have hBW:=h.hBW
 refine sh21 hl3 (by omega) hm3 (fun b hb=>?_) hfo hfm (by omega) _ a3 hf3 fun a4 w4 hf4 hl4 hk4 hlow4=>?_
 ·have hb:W.heap.size<=b:=hb
  exact⟨by omega,by omega,by omega⟩
 have s4:=hk4.1
 refine hQ a4 w4 hf4 (h.acted ⟨⟨New.lt hY' hBW (by omega),hrows,X3,m1,m2,A3,pn+sn,c3,lA,ln,lc,st,hl4,fun b hb=>?_,hln⟩,?_,hlow3.trans hlow4⟩)
 ·have hblt:=(hl4.allLt b hb).2
  rcases hb with hb|hb|hb|hb|hb
  ·rcases hX3 b hb with hb|hb
   ·exact .inl (hX b (.inl hb))
   ·exact .inr ⟨hb,hblt⟩
  ·exact .inl (hX b (.inr (.inl hb)))
  ·exact .inl (hX b (.inr (.inr (.inl hb))))
  ·exact .inl (hX b (.inr (.inr (.inr (.inl hb)))))
  ·exact .inl (hX b (.inr (.inr (.inr (.inr hb)))))
 ·refine⟨by omega,fun b hb hlt=>(hk4.2 b (fun e=>hb ?_) (by omega)).trans (hk3.2 b ⟨fun e=>hb (hX b (.inl e)),fun e=>hb (hX b (.inr (.inl e)))⟩ hlt)⟩
  rcases e with e|e|e
  ·exact hX b (.inr (.inl e))
  ·exact hX b (.inr (.inr (.inl e)))
  ·exact hX b (.inr (.inr (.inr (.inl e))))
end
end
section
variable {a:Act} {K L:Act->World->Prop} {c:Code} {fence:Int} {os:List OpC} {B g k k':Nat} {Y:Nat->Prop} {P:Program} {w w':World} {Q:Z}
theorem wp_then2 (h:c.wp P (Exit.then K Q) a w):c.wp P (Exit.then K (Exit.then L Q)) a w:=
 wp_mono h fun e a w hq=>by cases e<;>exact hq
theorem Acted.more (h:Acted B g Y k os fence w w') (hk:k<=k'):Acted B g Y k' os fence w w':=⟨h.1.more hk,h.2⟩
end
section
variable {w wb W:World} {B g:Nat} {Y S:Nat->Prop} {k:Nat} {os:List OpC} {epoch0:Int} {kind epoch site:Int} {o:OpC} {hA:O} {hn hc:Nat} {after since:Int} {qA:O} {qn qc:Nat} {tag:Int} {ops:List OpC} {N E:Int}
section
variable {C:Array Value} {k':Nat} {v0 v3 v4 v5:Value}
theorem ShipAt.more (h:ShipAt w wb W B g Y S k os epoch0 C qA qn qc ops N E) (hk:k<=k'):ShipAt w wb W B g Y S k' os epoch0 C qA qn qc ops N E:=
 ⟨h.hY,h.hB,h.hz,h.size,h.led.more hk,h.kept,h.low,h.h8,h.h5,h.hs,h.hops,h.hS⟩
theorem sh7 (Q:Z) (a:Act) (hfr:Fr 147 a [(0,v0),(3,v3),(4,v4),(5,v5)]) (hQ:∀ a',Fr 147 a' [(0,v0),(3,v3),(4,v4),(5,v5),(6,.int .i64 (0:Nat))]->Q .normal a' W) :
 (part [1,1,1,1,1,0] (codeOf shipLF)).wp prog Q a W:=by
 have HQ:=J hQ
 clear hQ
 exact Y30
end
def shipTo (os ops:List OpC):List OpC:=match ops[hadN os ops]? with
 | some o=>if ¬ o.kind=3/\¬ siteL os (o.n-2)=o.site then os else os.take (o.n-1).toNat++ops.drop (hadN os ops)
 | none=>os
theorem sh_tail (h:ShipAt w wb W B g Y S k os epoch0 (cmdC kind epoch site o hA hn hc after since qA qn qc tag) qA qn qc ops N E) {N0 E0:Int} (hrow:rowB N0 E0 ops=true) (hhas:hasL os N0 E0=true) (hk:k<=900000) (a:Act) (hfr:Fr 147 a [(0,g),(3,(w:Nat)),(4,(w.heap.size+1:Nat)),(5,(w.heap.size+2:Nat)),(6,.int .i64 (hadN os ops:Nat))]) :
 (part [1,1,1,1,1,1,1,1] (codeOf shipLF)).wp prog (bodyPost prog shipLF fun e w'=>(∃ u n ep,e=.returned (doneV u n ep))/\Acted B g Y (k+80) (shipTo os ops) epoch0 w w') a W:=by
 have hqn:=h.hops.len
 have hle:=hadN_le os ops
 refine Wq fun K hK=>?_
 rcases Nat.lt_or_ge (hadN os ops) qn with hj|hj
 ·obtain⟨x,hx⟩:∃ x,ops[hadN os ops]? = some x:=⟨_,List.getElem?_eq_getElem (by omega)⟩
  obtain⟨f1,f2,f3,f4,f5⟩:=ship_at hrow hhas hx
  have hrows:=ship_rows h.led.rows hrow hhas hx
  have hto:shipTo os ops=if ¬ x.kind=3/\¬ siteL os (x.n-2)=x.site then os else os.take (x.n-1).toNat++ops.drop (hadN os ops):=by unfold shipTo;rw [hx]
  obtain⟨m,hm⟩:∃ m:Nat,x.n=(m:Int)+1:=⟨(x.n-1).toNat,by omega⟩
  have hmt:(x.n-1).toNat=m:=by omega
  have hmle:m<=os.length:=by omega
  have hol:=h.led.rows.len
  rw [hmt] at hto hrows
  obtain⟨ad,x',oA,on,oc,rfl,hab,hck,hop,hss⟩:=h.hops.at_ (k:=hadN os ops) hj
  rw [hx] at hck
  injection hck with hck
  subst hck
  have hrest:=h.hops.drop_ (n:=hadN os ops) hj
  refine Wt ?_
  refine sh13 h hj _ a hfr fun a2 hf2=>?_
  show (part [1,1,1,1,1,1,1,1,0,1] (codeOf shipLF)).wp prog _ a2 W
  refine Wt ?_
  refine sh14 (by omega) _ a2 hf2 fun a3 hf3=>?_
  show (part [1,1,1,1,1,1,1,1,0,1,1] (codeOf shipLF)).wp prog _ a3 W
  refine wp_if (x:=part [1,1,1,1,1,1,1,1,0,1,1,0] (codeOf shipLF)) (y:=part [1,1,1,1,1,1,1,1,0,1,1,1] (codeOf shipLF)) (o:=.tmp 91) kr (eval_at hf3.2.2.2.2.2.2.2.1 rfl) (fun _=>?_) fun ht=>by cases ht
  refine Wt ?_
  refine sh15 (by omega) hop _ a3 ⟨hf3.1,hf3.2.1,hf3.2.2.1,hf3.2.2.2.1,hf3.2.2.2.2.1,hf3.2.2.2.2.2.1,hf3.2.2.2.2.2.2.1,trivial⟩ fun a4 hf4=>?_
  show (part [1,1,1,1,1,1,1,1,0,1,1,0,1] (codeOf shipLF)).wp prog _ a4 _
  obtain⟨w2,hw2⟩:∃ w2,w2=W.alloc (.cells (oC x.n x.epoch x.kind x.site x.client x.seq x.name x.size oA on oc) 45):=⟨_,rfl⟩
  rw [<-hw2]
  have hb12:Below W W w2:=by rw [hw2];exact (Below.refl _ _).alloc (Nat.le_refl _) _
  have hbx:Blk w2 W 45 (oC x.n x.epoch x.kind x.site x.client x.seq x.name x.size oA on oc):=by rw [hw2];exact Blk.new _ _ _
  have hxn:¬ New Y wb W W.heap.size:=fun hx=>by
   have:=(h.led.1 _ hx).2
   omega
  have h2:=h.below hb12
  have hrest2:=hrest.below hb12
  have next:∀ a' W',Fr 147 a' [(0,g),(3,(w:Nat)),(4,(w.heap.size+1:Nat)),(5,(w.heap.size+2:Nat)),(8,.slice (some (ad.add (hadN os ops*9))) (qn-hadN os ops) (qc-hadN os ops)),(9,(W:Nat))]->Below w2 w2 W'->shipTo os ops=os.take m++ops.drop (hadN os ops)->
   (part [1,1,1,1,1,1,1,1,0,1,1,0,1,1] (codeOf shipLF)).wp prog (Exit.then K (bodyPost prog shipLF fun e w'=>(∃ u n ep,e=.returned (doneV u n ep))/\Acted B g Y (k+80) (shipTo os ops) epoch0 w w')) a' W':=by
   intro a' W' hf' hb' hto'
   have h3:=h2.below hb'
   refine Wt ?_
   refine sh18 h3 (hbx.below hb' hbx.lt) hm (by omega) hk _ a' hf' fun a5 w5 hf5 h5=>?_
   show (part [1,1,1,1,1,1,1,1,0,1,1,0,1,1,1] (codeOf shipLF)).wp prog _ a5 w5
   refine sh_more h5 (h5.hops.drop_ (n:=hadN os ops) hj) hrows _ a5 hf5 fun a6 w6 hf6 h6=>?_
   refine hK a6 w6 ?_
   rw [hto']
   exact ship_tail2 h6 a6 ⟨hf6.1,hf6.2.1,hf6.2.2.1,hf6.2.2.2.2.1,hf6.2.2.2.2.2.1,trivial⟩
  refine Wq fun L hL=>?_
  refine wp_then2 ?_
  by_cases hk3:x.kind=3
  ·have hto':shipTo os ops=os.take m++ops.drop (hadN os ops):=by rw [hto,if_neg fun hh=>hh.1 hk3]
   exact sh16_reign h2 hbx (by simp [hk3]) (K:=L) (fun a' W' hf' hb'=>hL a' W' (next a' W' hf' hb' hto')) a4 hf4
  ·have hkb:(x.kind != 3)=true:=by simp [hk3]
   have hm1:=f4 hk3
   obtain⟨i,hi⟩:∃ i:Nat,x.n=(i:Int)+2:=⟨(x.n-2).toNat,by omega⟩
   obtain⟨m1,m2,pA,pn,pc,lA,ln,lc,settled,hgb,hos,hlive,hlast⟩:=h2.led.open_
   have hpn:=hos.len
   obtain⟨ad2,y,yA,yn,yc,rfl,hab2,hck2,hop2,hss2⟩:=hos.at_ (k:=i) (by omega)
   have hsite:siteL os (x.n-2)=y.site:=by
    unfold siteL
    have e:(x.n-2).toNat=i:=by omega
    rw [e,hck2]
   by_cases hs:y.site=x.site
   ·have hto':shipTo os ops=os.take m++ops.drop (hadN os ops):=by rw [hto,if_neg fun hh=>hh.2 (hsite.trans hs)]
    exact sh16_ok h2 hbx hgb rfl hop2 (by omega) (by omega) hi hkb (by simp [hs]) (K:=L) (fun a' W' hf' hb'=>hL a' W' (next a' W' hf' hb' hto')) a4 hf4
   ·have hto':shipTo os ops=os:=by rw [hto,if_pos ⟨hk3,fun e=>hs (hsite.symm.trans e)⟩]
    rw [hto']
    exact sh16_gap (h2.more (Nat.le_add_right k 80)) hbx hgb rfl hop2 (by omega) (by omega) hi hkb (by simp [hs]) a4 hf4
 ·obtain hje:hadN os ops=qn:=by omega
  have hnone:ops[hadN os ops]? = none:=List.getElem?_eq_none (by omega)
  have hto:shipTo os ops=os:=by unfold shipTo;rw [hnone]
  rw [hje] at hfr
  refine sh13_all h _ a hfr fun a2 hf2=>?_
  refine hK a2 W ?_
  rw [hto]
  exact ship_tail2 (h.more (by omega)) a2 ⟨hf2.1,hf2.2.1,hf2.2.2.1,hf2.2.2.2.2.1,hf2.2.2.2.2.2.1,trivial⟩
end
section
variable {w wb W:World} {B g:Nat} {Y S:Nat->Prop} {k:Nat} {os:List OpC} {epoch0:Int} {kind epoch site:Int} {o:OpC} {hA:O} {hn hc:Nat} {after since:Int} {qA:O} {qn qc:Nat} {tag:Int} {ops:List OpC} {N E:Int}
section
variable {K:Act->World->Prop} {os':List OpC}
section
variable (h:ShipAt w wb W B g Y S k os epoch0 (cmdC kind epoch site o hA hn hc after since qA qn qc tag) qA qn qc ops N E)
include h
theorem sh5 (hN:0<=N/\N<=4294967296) (a:Act) (hfr:Fr 147 a [(0,g),(3,(w:Nat)),(4,(w.heap.size+1:Nat)),(5,(w.heap.size+2:Nat))]) (hK:hasL os N E=true->∀ a' W',Fr 147 a' [(0,g),(3,(w:Nat)),(4,(w.heap.size+1:Nat)),(5,(w.heap.size+2:Nat))]->Below W W W'->K a' W') (hos:hasL os N E=false->os'=os) :
 (part [1,1,1,1,0] (codeOf shipLF)).wp prog (Exit.then K (bodyPost prog shipLF fun e w'=>(∃ u n ep,e=.returned (doneV u n ep))/\Acted B g Y k os' epoch0 w w')) a W:=by
 obtain⟨m1,m2,pA,pn,pc,lA,ln,lc,settled,hgb,hops,hlive,hlast⟩:=h.led.open_
 obtain⟨s0,s1⟩:=h.hs.cs 0 2
 obtain⟨HS,HK,HO⟩:=J3 h hK hos
 have HC:=J (ledHas_any N E W hgb rfl hops hN)
 clear h hK hos hgb hops hlive hlast
 refine gg hfr fun t=>?_
 go_wp2_with fail
 refine HC.out.mono ?_
 rintro e w1 ⟨rfl,hb1⟩
 have HB1:=J hb1
 clear hb1
 dsimp only
 cases hh:hasL os N E with
 | true=>
  have HH:=J hh
  clear hh
  go_wp2_with fail
  exact HK.out HH.out _ _ ff HB1.out
 | false=>
  obtain rfl:=HO.out hh
  clear hh HO HK
  go_wp2_with fail
  refine (failed_any _ _).mono ?_
  rintro e w2 ⟨rfl,hb2⟩
  have hs2:=(HS.out.below HB1.out).below hb2
  have h82:=hs2.h8
  obtain⟨Wz,HWW,z0,z1,z2,HKK,HLL,y0,y1,y2,f0⟩:=de h82 121 0 0
  have HH:=J hs2
  clear hb2 hs2
  exact Y117
theorem sh_d (hrow:rowB N E ops=true) (hk:k<=900000) (hqn:qn<=1000) (a:Act) (hfr:Fr 147 a [(0,g),(3,(w:Nat)),(4,(w.heap.size+1:Nat)),(5,(w.heap.size+2:Nat))]) :
 (part [1,1,1,1] (codeOf shipLF)).wp prog (bodyPost prog shipLF fun e w'=>(∃ u n ep,e=.returned (doneV u n ep))/\Acted B g Y (k+80) (if hasL os N E=true then shipTo os ops else os) epoch0 w w') a W:=by
 have hops:∀ x∈ops,opB x=true:=by
  intro x hx
  obtain⟨i,hi⟩:=List.getElem?_of_mem hx
  unfold rowB at hrow
  simp only [Bool.and_eq_true] at hrow
  exact (rowFrom_at hrow.2 hi).2
 have hN:0<=N/\N<=4294967296:=by
  unfold rowB rowHead at hrow
  simp only [Bool.and_eq_true,decide_eq_true_eq] at hrow
  omega
 refine Wq fun K hK=>?_
 refine sh5 (h.more (Nat.le_add_right k 80)) hN a hfr (fun hh a2 w2 hf2 hb2=>hK a2 w2 ?_) fun hh=>by rw [if_neg (by rw [hh];exact Bool.false_ne_true)]
 rw [if_pos hh]
 have h2:=h.below hb2
 refine Wt ?_
 refine sh7 _ a2 hf2 fun a3 hf3=>?_
 show (part [1,1,1,1,1,1] (codeOf shipLF)).wp prog _ a3 w2
 refine Wt ?_
 refine sh_loop h2 hops hqn _ a3 hf3 fun a4 w4 hf4 h4=>?_
 show (part [1,1,1,1,1,1,1] (codeOf shipLF)).wp prog _ a4 w4
 refine Wt ?_
 refine sh10 h4 hqn _ a4 hf4 fun a5 w5 N' E' hf5 h5=>?_
 exact sh_tail h5 hrow hh hk a5 hf5
end
end
end
theorem ship_any {w:World} {B g:Nat} {Y S:Nat->Prop} {k:Nat} {os:List OpC} {fence:Int} (kind epoch site:Int) (o:OpC) (hA:O) (hn hc:Nat) (after since:Int) (qA:O) (qn qc:Nat) (tag:Int) (ops:List OpC) (h:LedIs w B g Y k os fence) (hB:B<=w) (hops:OpsIs w S qA qn qc ops) (hS:∀ b,S b->¬ Y b) (hrow:rowB after since ops=true) (hk:k<=900000) (hqn:qn<=1000) :
 Calls prog 44 #[.pointer (some ⟨g,0,none⟩),.agg (cmdC kind epoch site o hA hn hc after since qA qn qc tag)] w fun x w'=>(∃ e n ep,x=.returned (doneV e n ep))/\Acted B g Y (k+80) (if shipsB os fence ⟨kind,epoch,site,o,after,since,ops,tag⟩=true then (shipOs os ⟨kind,epoch,site,o,after,since,ops,tag⟩,epoch) else (os,fence)).1 (if shipsB os fence ⟨kind,epoch,site,o,after,since,ops,tag⟩=true then (shipOs os ⟨kind,epoch,site,o,after,since,ops,tag⟩,epoch) else (os,fence)).2 w w':=by
 have h0:=h
 obtain⟨m1,m2,pA,pn,pc,lA,ln,lc,settled,hgb,hos,hlive,hlast⟩:=h.open_
 have hpn:=hos.len
 have hgl:=hgb.lt
 obtain⟨w1,hw1,hz1,hb1,h5,h8⟩:=two_boxes w (cmdC kind epoch site o hA hn hc after since qA qn qc tag)
 have hg1:=hgb.below hb1 hgl
 have ho1:=hos.below hb1
 obtain⟨HW,H8,HB1,HZ1,H0⟩:=J5 hw1 h8 hb1 hz1 h0
 have H1:=J (h0.below hb1)
 obtain⟨HB,HG,H5,HOS,HPN⟩:=J5 hB hg1 h5 ho1 hpn
 obtain⟨g3,g4⟩:=hg1.cs 3 2
 have g7:=hg1.c1 7
 obtain⟨k1,k2⟩:=h5.cs 1 2
 obtain⟨k12,k13⟩:=h5.cs 12 2
 have f7:=hg1.frozen 7
 have hd:∀ nq (a:Act),Fr 147 a [(0,g),(3,(w:Nat)),(4,(w.heap.size+1:Nat)),(5,(w.heap.size+2:Nat))]->(part [1,1,1,1] (codeOf shipLF)).wp prog (bodyPost prog shipLF fun e w'=>(∃ u n ep,e=.returned (doneV u n ep))/\Acted B g Y (k+80) (if hasL os after since=true then shipTo os ops else os) epoch w w') a (((w1.drewN nq).setCell ⟨g,7,none⟩ (.int .i64 epoch)).alloc (.cells #[after,since] 26)):=by
  intro nq a hfr
  have hq:Below w1 w1 (w1.drewN nq):=below_drewN (Below.refl _ _) _
  have hl1:LedIs (w1.drewN nq) B g Y k os fence:=(h.below hb1).below hq
  have hBq:B<=(w1.drewN nq).heap.size:=by show B<=w1;omega
  have ha:=hl1.fence_ epoch hBq
  obtain⟨w2,hw2⟩:∃ w2,w2=(w1.drewN nq).setCell ⟨g,7,none⟩ (.int .i64 epoch):=⟨_,rfl⟩
  rw [<-hw2] at ha ⊢
  obtain⟨w3,hw3⟩:∃ w3,w3=w2.alloc (.cells #[after,since] 26):=⟨_,rfl⟩
  rw [<-hw3]
  have hz2:w2.heap.size=w.heap.size+2:=by rw [hw2];simp;exact hz1
  have hz3:w3.heap.size=w.heap.size+3:=by rw [hw3];simp;omega
  have hb23:Below w2 w2 w3:=by rw [hw3];exact (Below.refl _ _).alloc (Nat.le_refl _) _
  have hgn:∀ i,i<2->w.heap.size+i≠g:=fun i _=>by omega
  have hk12:Kept (fun b=>b≠g) w1 w2:=by rw [hw2];exact ((Kept.refl _ _).drewN nq).set_ ⟨g,7,none⟩ (.inl fun h=>h rfl) _
  have hk13:Kept (fun b=>b≠g) w1 w3:=hk12.below hb23
  have hYg:=h.gY
  have hs3:Blk w3 (w.heap.size+2) 26 #[after,since]:=by
   have:=Blk.new w2 26 #[after,since]
   rw [hz2,<-hw3] at this
   exact this
  have hNY:∀ b,New Y (w1.drewN nq) w2 b->Y b:=fun b hb=>hb.elim id fun hb=>by
   have e:(w1.drewN nq).heap.size=w1.heap.size:=rfl
   omega
  have h3:ShipAt w w3 w3 B g Y (fun b=>S b/\b<w) k os epoch (cmdC kind epoch site o hA hn hc after since qA qn qc tag) qA qn qc ops after since:=by
   refine⟨h.1,hB,by omega,Nat.le_refl _,?_,?_,?_,(hk13.2 _ (hgn 1 (by omega)) (by omega)).trans h8,(hk13.2 _ (hgn 0 (by omega)) (by omega)).trans h5,hs3,?_,fun b hb=>⟨hS b hb.1,hb.2⟩⟩
   ·exact (ha.1.below hb23).mono (fun b _ hb=>.inl (hNY b hb)) (New.lt (fun b hb=>⟨(h.1 b hb).1,by have:=(h.1 b hb).2;omega⟩) (by omega) (Nat.le_refl _))
   ·exact⟨by omega,fun b hb hlt=>(hk13.2 b (fun e=>hb (e▸hYg)) (by omega)).trans (hb1.block b hlt)⟩
   ·exact ((hb1.mono hB).trans (by rw [hw2];exact (below_drewN (Below.refl _ _) nq).setCell (p:=⟨g,7,none⟩) (h.1 g hYg).1 _)).trans (hb23.mono (by omega))
   ·refine ((hops.mono (S':=fun b=>S b/\b<w) fun b hb hx=>⟨hx,hb⟩).below hb1).kept (hk13.mono fun b _ hx e=>hS b hx.1 (e▸hYg))
  exact sh_d h3 hrow hk hqn a hfr
 have he:∀ b,shipsB os fence ⟨kind,epoch,site,o,after,since,ops,tag⟩=b->(if shipsB os fence ⟨kind,epoch,site,o,after,since,ops,tag⟩=true then (shipOs os ⟨kind,epoch,site,o,after,since,ops,tag⟩,epoch) else (os,fence))=if b=true then (if hasL os after since=true then shipTo os ops else os,epoch) else (os,fence):=fun b hb=>by rw [hb];rfl
 obtain⟨hE,hS',hhold⟩:∃ hE hS,holderC os=(hE,hS):=⟨_,_,rfl⟩
 have hsb:shipsB os fence ⟨kind,epoch,site,o,after,since,ops,tag⟩ = !(decide (epoch<fence)||(decide (epoch=hE)&&!decide (site=hS'))):=by unfold shipsB;rw [hhold]
 rw [hhold] at g3 g4
 simp only at g3 g4
 obtain⟨HD,HSB,HE⟩:=J3 hd hsb he
 clear hd hops hS hrow hqn hsb he
 clear h0 h hgb hos hpn hlive hlast hw1 hz1 hb1 h5 h8 hg1 ho1 hB hhold
 by_cases q1:epoch<fence
 ·have d1:decide (epoch<fence)=true:=decide_eq_true q1
  have hb:shipsB os fence ⟨kind,epoch,site,o,after,since,ops,tag⟩=false:=by rw [HSB.out];rw [d1];rfl
  rw [HE.out _ hb]
  rw [if_neg Bool.false_ne_true]
  clear hb q1
  exact Y20
 have d1:decide (epoch<fence)=false:=decide_eq_false q1
 by_cases q2:epoch=hE
 ·have d2:(epoch==hE)=true:=beq_iff_eq.2 q2
  by_cases q3:site=hS'
  ·have d3:(site != hS')=false:=by simp [q3]
   have hb:shipsB os fence ⟨kind,epoch,site,o,after,since,ops,tag⟩=true:=by rw [HSB.out];rw [d1,decide_eq_true q2,decide_eq_true q3];rfl
   rw [HE.out _ hb]
   rw [if_pos rfl]
   clear hb q1 q2 q3
   exact Y50
  ·have d3:(site != hS')=true:=by simp [q3]
   have hb:shipsB os fence ⟨kind,epoch,site,o,after,since,ops,tag⟩=false:=by rw [HSB.out];rw [d1,decide_eq_true q2,decide_eq_false q3];rfl
   rw [HE.out _ hb]
   rw [if_neg Bool.false_ne_true]
   clear hb q1 q2 q3
   exact Y20
 ·have d2:(epoch==hE)=false:=beq_eq_false_iff_ne.2 q2
  have hb:shipsB os fence ⟨kind,epoch,site,o,after,since,ops,tag⟩=true:=by rw [HSB.out];rw [d1,decide_eq_false q2];rfl
  rw [HE.out _ hb]
  rw [if_pos rfl]
  clear hb q1 q2
  exact Y50
end Go.Proofs.Ytaipgdhdfpemcaa
