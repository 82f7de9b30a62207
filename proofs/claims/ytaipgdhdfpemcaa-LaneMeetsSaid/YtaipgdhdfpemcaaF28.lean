/- THE WALKS OF THE LANE, part 28. -/
import Derived.Test.YtaipgdhdfpemcaaF26
import Derived.Test.YtaipgdhdfpemcaaF27
namespace Go.Proofs.Ytaipgdhdfpemcaa
set_option linter.all false
open Go.RowKit Go.Proofs.Try
set_option maxRecDepth 100000
set_option maxHeartbeats 4000000
theorem Led.row_ {w0 W:World} {B:Nat} {X:Nat->Prop} {g m1 m2:Nat} {fo os os':List OpC} {pA A':O} {pn pc n' c':Nat} {lA:O} {ln lc:Nat} {fence settled:Int} (h:Led w0 B X g m1 m2 fo os pA pn pc lA ln lc fence settled) (h1:RowIs W B (New X w0 W) A' n' c' os') (h2:Kept (fun b=>¬ X b) w0 W) (h3:Below B w0 W) (hB:B<=w0) :
 Led (W.setCell ⟨g,5,none⟩ (.slice A' n' c')) B (New X w0 W) g m1 m2 fo os' A' n' c' lA ln lc fence settled/\Kept (fun b=>¬ X b/\b≠g) w0 (W.setCell ⟨g,5,none⟩ (.slice A' n' c'))/\Below B w0 (W.setCell ⟨g,5,none⟩ (.slice A' n' c')):=by
 have hg:=(h2.2 g h.ng h.fold.blk.lt).trans h.fold.blk
 refine⟨?_,(h2.mono fun b _ h=>h.1).set_ ⟨g,5,none⟩ (.inl fun h=>h.2 rfl) _,h3.setCell (p:=⟨g,5,none⟩) h.fold.bg _⟩
 have hne:∀ b,b≠g->(W.setCell ⟨g,5,none⟩ (.slice A' n' c')).heap[b]? = W.heap[b]?:=fun b hb=>Below.heap_setCell _ _ _ b hb
 have hk:Kept (fun b=>b≠g) W (W.setCell ⟨g,5,none⟩ (.slice A' n' c')):=(Kept.refl _ _).set_ ⟨g,5,none⟩ (.inl fun h=>h rfl) _
 have ng':¬ New X w0 W g:=fun h'=>h'.elim h.ng fun h'=>by have:=h.fold.blk.lt;omega
 have hm1:=h2.2 m1 h.n1 h.fold.live.lt
 have hm2:=h2.2 m2 h.n2 h.fold.last.lt
 obtain⟨xs,hlost⟩:=h.lost
 refine⟨⟨Blk.set_ hg 5 _,(h.fold.live.keep hm1).keep (hne m1 h.fold.n1.symm),(h.fold.last.keep hm2).keep (hne m2 h.fold.n2.symm),Below.refl _ _,fun _ _ _ _ _=>rfl,h.fold.n1,h.fold.n2,h.fold.n3,h.fold.bg,h.fold.b1,h.fold.b2⟩,h1.kept (hk.mono fun b _ h' e=>ng' (e▸h')),⟨xs,ownsRow_keep hlost fun q hq=>?_⟩,ng',?_,?_,?_,?_⟩
 ·rw [ownBlock_slice] at hq
  exact (hne q (h.nl q hq).2.1).trans (h2.2 q (h.nl q hq).1 (h.lostLt q hq).2)
 ·exact fun h'=>h'.elim h.n1 fun h'=>by have:=h.fold.live.lt;omega
 ·exact fun h'=>h'.elim h.n2 fun h'=>by have:=h.fold.last.lt;omega
 ·exact fun q hq=>⟨fun h'=>h'.elim (h.nl q hq).1 fun h'=>by have:=(h.lostLt q hq).2;omega,(h.nl q hq).2⟩
 ·intro b hb
  have e:(W.setCell ⟨g,5,none⟩ (.slice A' n' c')).heap.size=W.heap.size:=by simp
  rw [e]
  rcases hb with hb|hb
  ·exact⟨(h.xlt b hb).1,Nat.lt_of_lt_of_le (h.xlt b hb).2 h2.1⟩
  ·exact⟨Nat.le_trans hB hb.1,hb.2⟩
section
variable {w wb W:World} {B g:Nat} {Y S:Nat->Prop} {k:Nat} {os:List OpC} {epoch0:Int} {C:Array Value} {qA:O} {qn qc:Nat} {ops:List OpC} {N E:Int} {v3 v4 v5 v8:Value}
section
variable {fence settled:Int} {fo more os':List OpC} {b9 lc ln m m1 m2 mc mn oc on pc pn sc sn:Nat} {SM SS X:Nat->Prop} {lA mA oA pA sA:O} {x:OpC} {W0:World}
theorem sh18 (h:ShipAt w wb W B g Y S k os epoch0 C qA qn qc ops N E) (hb:Blk W b9 45 (oC x.n x.epoch x.kind x.site x.client x.seq x.name x.size oA on oc)) (hm:x.n=(m:Int)+1) (hm2:m<=1000) (hk:k<=900000) (Q:Z) (a:Act) (hfr:Fr 147 a [(0,g),(3,v3),(4,v4),(5,v5),(8,v8),(9,b9)]) (hQ:∀ a' W',Fr 147 a' [(0,g),(3,v3),(4,v4),(5,v5),(8,v8)]->ShipAt w wb W' B g Y S (k+80) (os.take m) epoch0 C qA qn qc ops N E->Q .normal a' W') :
 (part [1,1,1,1,1,1,1,1,0,1,1,0,1,1,0] (codeOf shipLF)).wp prog Q a W:=by
 have o0:=hb.c1 0
 have z1:IntKind.i64.wrap (x.n-1)=(m:Nat):=by rw [IntKind.wrap_i64];omega
 obtain⟨HQ,HS⟩:=J2 hQ h
 clear hQ h hb hm
 refine gg hfr fun t=>?_
 go_wp2_with fail
 refine (part_any m HS.out.led hk (by omega) HS.out.hBW).mono ?_
 rintro e w2 ⟨rfl,ha⟩
 have HA:=J (HS.out.acted ha)
 clear ha
 dsimp only
 go_wp2_with fail
 exact HQ.out _ _ ff HA.out
theorem sh19 (hm:OpsIs W SS sA sn sc more) (hsn:sn<=1000) (hok:∀ x∈more,x.Ok) (Q:Z) (a:Act) (hfr:Fr 147 a [(0,g),(3,v3),(4,v4),(5,v5),(8,.slice sA sn sc)]) (hQ:∀ a' W' A' c',Fr 147 a' [(0,g),(3,v3),(4,v4),(5,v5),(10,.slice A' sn c')]->OpsIs W' (From W.heap.size) A' sn c' more->Below W W W'->Q .normal a' W') :
 (part [1,1,1,1,1,1,1,1,0,1,1,0,1,1,1,0] (codeOf shipLF)).wp prog Q a W:=by
 obtain⟨HQ,HM,HO⟩:=J3 hQ hm hok
 clear hQ hm hok
 refine gg hfr fun t=>?_
 go_wp2_with fail
 refine (lown_any sA sn sc more W HM.out (by omega) HO.out).mono ?_
 rintro e w2 ⟨A',c',rfl,h1,h2⟩
 obtain⟨H1,H2⟩:=J2 h1 h2
 clear h1 h2
 dsimp only
 go_wp2_with fail
 exact HQ.out _ _ _ _ ff H1.out H2.out
theorem sh20 (h:Led W0 B X g m1 m2 fo os pA pn pc lA ln lc fence settled) (hb:Below W0 W0 W) (hB:B<=W0) (hm:OpsIs W (From W0.heap.size) mA mn mc more) (hpn:pn<=1000) (hmn:mn<=1000) (Q:Z) (a:Act) (hfr:Fr 147 a [(0,g),(3,v3),(4,v4),(5,v5),(10,.slice mA mn mc)]) (hQ:∀ a' W' A' c' X',Fr 147 a' [(0,g),(3,v3),(4,v4),(5,v5),(10,.slice mA mn mc)]->Led W' B X' g m1 m2 fo (os++more) A' (pn+mn) c' lA ln lc fence settled->Kept (fun b=>¬ X b/\b≠g) W0 W'->Below B W0 W'->(∀ b,X' b->X b\/W0.heap.size<=b)->OpsIs W' (From W0.heap.size) mA mn mc more->Q .normal a' W') :
 (part [1,1,1,1,1,1,1,1,0,1,1,0,1,1,1,1,0] (codeOf shipLF)).wp prog Q a W:=by
 have hL:=h.below hb
 have hsz:=hb.size
 have hrl:=h.row.lt
 have hgl:=h.fold.blk.lt
 have HX:∀ q,ob pA=some q->X q:=by obtain⟨ds,_,_,h3⟩:=h.row;exact h3
 obtain⟨A2,c2,w',hrun,r1,r2,r3⟩:=run_append_row 28 hL.row hm (fun b hb' hx e=>by have h3:=(hrl b e.symm).2;have h4:W0.heap.size<=b:=hx;omega) (by omega) (by omega)
 have hk1:Kept (fun b=>¬ X b) W0 w':=(Kept.of _ hb).grown r2 fun q hq=>.inl fun h=>h (HX q hq)
 have hl1:Below B W0 w':=(hb.mono hB).trans (below_grown r2 (fun q hq=>(hrl q hq).1) (by omega))
 have r1':RowIs w' B (New X W0 w') A2 (pn+mn) c2 (os++more):=r1.mono fun b hb' hx=>by
  rcases hx with hx|hx|hx
  ·exact .inl hx
  ·exact .inr ⟨hx,hb'⟩
  ·rcases r3 with r3|r3
   ·exact .inl (HX b (by rw [<-r3];exact hx))
   ·rw [hx] at r3
    injection r3 with r3
    exact .inr ⟨by omega,hb'⟩
 obtain⟨q1,q2,q3⟩:=h.row_ r1' hk1 hl1 hB
 have hm2:OpsIs (w'.setCell ⟨g,5,none⟩ (.slice A2 (pn+mn) c2)) (From W0.heap.size) mA mn mc more:=by
  refine (hm.kept ((Kept.refl _ _).grown r2 fun q hq=>.inl fun hx=>?_)).kept ((Kept.refl _ _).set_ ⟨g,5,none⟩ (.inl fun hx=>?_) _)
  ·have h3:=(hrl q hq).2
   have h4:W0.heap.size<=q:=hx
   omega
  ·have h4:W0.heap.size<=g:=hx
   omega
 have hgw:=(hk1.2 g h.ng hgl).trans h.fold.blk
 have d5:=Blk.cell hgw 5
 simp at d5
 have f5:w'.frozen? ⟨g,5,none⟩=false:=Blk.frozen hgw 5
 have g5:=hL.fold.blk.c1 5
 have HQ:=J (fun a' hf=>hQ a' _ A2 c2 (New X W0 w') hf q1 q2 q3 (fun b hb=>hb.imp id fun h=>h.1) hm2)
 clear hQ h hb hm hL hrl HX r1 r2 r3 hk1 hl1 r1' q1 q2 q3 hm2 hgw
 refine gg hfr fun t=>?_
 go_wp2_with (at_builtin;refine wpList_value' rfl (.slice A2 (pn+mn) c2) w' (by simp [execOp,resolve,invoke,builtin,Act.eval,hrun,Result.andThen]) ?_)
 exact HQ.out _ ff
theorem sh21 (h:Led W B X g m1 m2 fo os' pA pn pc lA ln lc fence settled) (hB:B<=W) (hm:OpsIs W SM mA mn mc more) (hS:∀ b,SM b->b≠g/\b≠m1/\b≠m2) (hfo:∀ x∈fo,Fits x) (hfm:∀ x∈more,Fits x) (hlen:fo.length+more.length<=1000) (Q:Z) (a:Act) (hfr:Fr 147 a [(0,g),(3,v3),(4,v4),(5,v5),(10,.slice mA mn mc)]) (hQ:∀ a' W',Fr 147 a' [(0,g),(3,v3),(4,v4),(5,v5)]->Led W' B X g m1 m2 (fo++more) os' pA pn pc lA ln lc fence settled->Kept (fun b=>¬ (b=g\/b=m1\/b=m2)) W W'->Below B W W'->Q .normal a' W') :
 (part [1,1,1,1,1,1,1,1,0,1,1,0,1,1,1,1,1] (codeOf shipLF)).wp prog Q a W:=by
 have hc:=take_any h.fold hm hS hfo hfm (by omega) hB
 obtain⟨HQ,HL,HC⟩:=J3 hQ h hc
 clear hQ h hm hS hfo hfm hlen hc
 refine gg hfr fun t=>?_
 go_wp2_with fail
 refine HC.out.mono ?_
 rintro e w2 ⟨rfl,hf⟩
 have q1:=HL.out.refold hf.low.size hf.others hf.base
 have q2:Kept (fun b=>¬ (b=g\/b=m1\/b=m2)) W w2:=⟨hf.low.size,fun b h1 h2=>hf.others b h2 (fun e=>h1 (.inl e)) (fun e=>h1 (.inr (.inl e))) fun e=>h1 (.inr (.inr e))⟩
 obtain⟨H1,H2,H3⟩:=J3 q1 q2 hf.low
 clear q1 q2 hf
 dsimp only
 go_wp2_with fail
 exact HQ.out _ _ ff H1.out H2.out H3.out
theorem sh_more (h:ShipAt w wb W B g Y S k os epoch0 C qA qn qc ops N E) (hm:OpsIs W SS sA sn sc more) (hrows:Rows (os++more)) (Q:Z) (a:Act) (hfr:Fr 147 a [(0,g),(3,v3),(4,v4),(5,v5),(8,.slice sA sn sc)]) (hQ:∀ a' W',Fr 147 a' [(0,g),(3,v3),(4,v4),(5,v5)]->ShipAt w wb W' B g Y S k (os++more) epoch0 C qA qn qc ops N E->Q .normal a' W') :
 (part [1,1,1,1,1,1,1,1,0,1,1,0,1,1,1] (codeOf shipLF)).wp prog Q a W:=by
 have hlen:=hrows.len
 rw [List.length_append] at hlen
 have hml:=hm.len
 have hfm:∀ x∈more,Fits x:=fun x hx=>hrows.fits x (List.mem_append_right _ hx)
 have hfo:∀ x∈os,Fits x:=fun x hx=>hrows.fits x (List.mem_append_left _ hx)
 obtain⟨hY',hr,X,m1,m2,pA,pn,pc,lA,ln,lc,st,hl,hX,hln⟩:=h.led
 have hpn:=hl.len
 have hgl:=hl.fold.blk.lt
 have hl1:=hl.fold.live.lt
 have hl2:=hl.fold.last.lt
 refine Ytaipgdhdfpemcaa.w2 ?_
 refine sh19 hm (by omega) (fun x hx=>(hfm x hx).ok) _ a hfr fun a2 w2 A2 c2 hf2 hm2 hb2=>?_
 show (part [1,1,1,1,1,1,1,1,0,1,1,0,1,1,1,1] (codeOf shipLF)).wp prog Q a2 w2
 refine Ytaipgdhdfpemcaa.w2 ?_
 refine sh20 hl hb2 h.hBW hm2 (by omega) (by omega) _ a2 hf2 fun a3 w3 A3 c3 X3 hf3 hl3 hk3 hlow3 hX3 hm3=>?_
 show (part [1,1,1,1,1,1,1,1,0,1,1,0,1,1,1,1,1] (codeOf shipLF)).wp prog Q a3 w3
 have s3:=hk3.1
 have hBW:=h.hBW
 refine sh21 hl3 (by omega) hm3 (fun b hb=>?_) hfo hfm (by omega) _ a3 hf3 fun a4 w4 hf4 hl4 hk4 hlow4=>?_
 ·have hb:W.heap.size<=b:=hb
  exact⟨by omega,by omega,by omega⟩
 have s4:=hk4.1
 refine hQ a4 w4 hf4 (h.acted ⟨⟨New.lt hY' hBW (by omega),hrows,X3,m1,m2,A3,pn+sn,c3,lA,ln,lc,st,hl4,fun b hb=>?_,hln⟩,?_,hlow3.trans hlow4⟩)
 ·have hblt:=(hl4.allLt b hb).2
  rcases hb with hb|hb|hb|hb|hb
  ·rcases hX3 b hb with hb|hb
   ·exact .inl (hX b (.inl hb))
   ·exact .inr ⟨hb,hblt⟩
  ·exact .inl (hX b (.inr (.inl hb)))
  ·exact .inl (hX b (.inr (.inr (.inl hb))))
  ·exact .inl (hX b (.inr (.inr (.inr (.inl hb)))))
  ·exact .inl (hX b (.inr (.inr (.inr (.inr hb)))))
 ·refine⟨by omega,fun b hb hlt=>(hk4.2 b (fun e=>hb ?_) (by omega)).trans (hk3.2 b ⟨fun e=>hb (hX b (.inl e)),fun e=>hb (hX b (.inr (.inl e)))⟩ hlt)⟩
  rcases e with e|e|e
  ·exact hX b (.inr (.inl e))
  ·exact hX b (.inr (.inr (.inl e)))
  ·exact hX b (.inr (.inr (.inr (.inl e))))
end
end
section
variable {a:Act} {K L:Act->World->Prop} {c:Code} {fence:Int} {os:List OpC} {B g k k':Nat} {Y:Nat->Prop} {P:Program} {w w':World} {Q:Z}
theorem wp_then2 (h:c.wp P (Exit.then K Q) a w):c.wp P (Exit.then K (Exit.then L Q)) a w:=
 wp_mono h fun e a w hq=>by cases e<;>exact hq
theorem Acted.more (h:Acted B g Y k os fence w w') (hk:k<=k'):Acted B g Y k' os fence w w':=⟨h.1.more hk,h.2⟩
end
section
variable {w wb W:World} {B g:Nat} {Y S:Nat->Prop} {k:Nat} {os:List OpC} {epoch0:Int} {kind epoch site:Int} {o:OpC} {hA:O} {hn hc:Nat} {after since:Int} {qA:O} {qn qc:Nat} {tag:Int} {ops:List OpC} {N E:Int}
section
variable {C:Array Value} {k':Nat} {v0 v3 v4 v5:Value}
theorem ShipAt.more (h:ShipAt w wb W B g Y S k os epoch0 C qA qn qc ops N E) (hk:k<=k'):ShipAt w wb W B g Y S k' os epoch0 C qA qn qc ops N E:=
 ⟨h.hY,h.hB,h.hz,h.size,h.led.more hk,h.kept,h.low,h.h8,h.h5,h.hs,h.hops,h.hS⟩
theorem sh7 (Q:Z) (a:Act) (hfr:Fr 147 a [(0,v0),(3,v3),(4,v4),(5,v5)]) (hQ:∀ a',Fr 147 a' [(0,v0),(3,v3),(4,v4),(5,v5),(6,.int .i64 (0:Nat))]->Q .normal a' W) :
 (part [1,1,1,1,1,0] (codeOf shipLF)).wp prog Q a W:=by
 exact Y218
end
def shipTo (os ops:List OpC):List OpC:=match ops[hadN os ops]? with
 | some o=>if ¬ o.kind=3/\¬ siteL os (o.n-2)=o.site then os else os.take (o.n-1).toNat++ops.drop (hadN os ops)
 | none=>os
theorem sh_tail (h:ShipAt w wb W B g Y S k os epoch0 (cmdC kind epoch site o hA hn hc after since qA qn qc tag) qA qn qc ops N E) {N0 E0:Int} (hrow:rowB N0 E0 ops=true) (hhas:hasL os N0 E0=true) (hk:k<=900000) (a:Act) (hfr:Fr 147 a [(0,g),(3,(w:Nat)),(4,(w.heap.size+1:Nat)),(5,(w.heap.size+2:Nat)),(6,.int .i64 (hadN os ops:Nat))]) :
 (part [1,1,1,1,1,1,1,1] (codeOf shipLF)).wp prog (bodyPost prog shipLF fun e w'=>(∃ u n ep,e=.returned (doneV u n ep))/\Acted B g Y (k+80) (shipTo os ops) epoch0 w w') a W:=by
 have hqn:=h.hops.len
 have hle:=hadN_le os ops
 refine w2p fun K hK=>?_
 rcases Nat.lt_or_ge (hadN os ops) qn with hj|hj
 ·obtain⟨x,hx⟩:∃ x,ops[hadN os ops]? = some x:=⟨_,List.getElem?_eq_getElem (by omega)⟩
  obtain⟨f1,f2,f3,f4,f5⟩:=ship_at hrow hhas hx
  have hrows:=ship_rows h.led.rows hrow hhas hx
  have hto:shipTo os ops=if ¬ x.kind=3/\¬ siteL os (x.n-2)=x.site then os else os.take (x.n-1).toNat++ops.drop (hadN os ops):=by unfold shipTo;rw [hx]
  obtain⟨m,hm⟩:∃ m:Nat,x.n=(m:Int)+1:=⟨(x.n-1).toNat,by omega⟩
  have hmt:(x.n-1).toNat=m:=by omega
  have hmle:m<=os.length:=by omega
  have hol:=h.led.rows.len
  rw [hmt] at hto hrows
  obtain⟨ad,x',oA,on,oc,rfl,hab,hck,hop,hss⟩:=h.hops.at_ (k:=hadN os ops) hj
  rw [hx] at hck
  injection hck with hck
  subst hck
  have hrest:=h.hops.drop_ (n:=hadN os ops) hj
  refine Ytaipgdhdfpemcaa.w2 ?_
  refine sh13 h hj _ a hfr fun a2 hf2=>?_
  show (part [1,1,1,1,1,1,1,1,0,1] (codeOf shipLF)).wp prog _ a2 W
  refine Ytaipgdhdfpemcaa.w2 ?_
  refine sh14 (by omega) _ a2 hf2 fun a3 hf3=>?_
  show (part [1,1,1,1,1,1,1,1,0,1,1] (codeOf shipLF)).wp prog _ a3 W
  refine wp_if (x:=part [1,1,1,1,1,1,1,1,0,1,1,0] (codeOf shipLF)) (y:=part [1,1,1,1,1,1,1,1,0,1,1,1] (codeOf shipLF)) (o:=.tmp 91) kr (eval_at hf3.2.2.2.2.2.2.2.1 rfl) (fun _=>?_) fun ht=>by cases ht
  refine Ytaipgdhdfpemcaa.w2 ?_
  refine sh15 (by omega) hop _ a3 ⟨hf3.1,hf3.2.1,hf3.2.2.1,hf3.2.2.2.1,hf3.2.2.2.2.1,hf3.2.2.2.2.2.1,hf3.2.2.2.2.2.2.1,trivial⟩ fun a4 hf4=>?_
  show (part [1,1,1,1,1,1,1,1,0,1,1,0,1] (codeOf shipLF)).wp prog _ a4 _
  obtain⟨w2,hw2⟩:∃ w2,w2=W.alloc (.cells (oC x.n x.epoch x.kind x.site x.client x.seq x.name x.size oA on oc) 45):=⟨_,rfl⟩
  rw [<-hw2]
  have hb12:Below W W w2:=by rw [hw2];exact (Below.refl _ _).alloc (Nat.le_refl _) _
  have hbx:Blk w2 W 45 (oC x.n x.epoch x.kind x.site x.client x.seq x.name x.size oA on oc):=by rw [hw2];exact Blk.new _ _ _
  have hxn:¬ New Y wb W W.heap.size:=fun hx=>by
   have:=(h.led.1 _ hx).2
   omega
  have h2:=h.below hb12
  have hrest2:=hrest.below hb12
  have next:∀ a' W',Fr 147 a' [(0,g),(3,(w:Nat)),(4,(w.heap.size+1:Nat)),(5,(w.heap.size+2:Nat)),(8,.slice (some (ad.add (hadN os ops*9))) (qn-hadN os ops) (qc-hadN os ops)),(9,(W:Nat))]->Below w2 w2 W'->shipTo os ops=os.take m++ops.drop (hadN os ops)->
   (part [1,1,1,1,1,1,1,1,0,1,1,0,1,1] (codeOf shipLF)).wp prog (Exit.then K (bodyPost prog shipLF fun e w'=>(∃ u n ep,e=.returned (doneV u n ep))/\Acted B g Y (k+80) (shipTo os ops) epoch0 w w')) a' W':=by
   intro a' W' hf' hb' hto'
   have h3:=h2.below hb'
   refine Ytaipgdhdfpemcaa.w2 ?_
   refine sh18 h3 (hbx.below hb' hbx.lt) hm (by omega) hk _ a' hf' fun a5 w5 hf5 h5=>?_
   show (part [1,1,1,1,1,1,1,1,0,1,1,0,1,1,1] (codeOf shipLF)).wp prog _ a5 w5
   refine sh_more h5 (h5.hops.drop_ (n:=hadN os ops) hj) hrows _ a5 hf5 fun a6 w6 hf6 h6=>?_
   refine hK a6 w6 ?_
   rw [hto']
   exact ship_tail2 h6 a6 ⟨hf6.1,hf6.2.1,hf6.2.2.1,hf6.2.2.2.2.1,hf6.2.2.2.2.2.1,trivial⟩
  refine w2p fun L hL=>?_
  refine wp_then2 ?_
  by_cases hk3:x.kind=3
  ·have hto':shipTo os ops=os.take m++ops.drop (hadN os ops):=by rw [hto,if_neg fun hh=>hh.1 hk3]
   exact sh16_reign h2 hbx (by simp [hk3]) (K:=L) (fun a' W' hf' hb'=>hL a' W' (next a' W' hf' hb' hto')) a4 hf4
  ·have hkb:(x.kind != 3)=true:=by simp [hk3]
   have hm1:=f4 hk3
   obtain⟨i,hi⟩:∃ i:Nat,x.n=(i:Int)+2:=⟨(x.n-2).toNat,by omega⟩
   obtain⟨m1,m2,pA,pn,pc,lA,ln,lc,settled,hgb,hos,hlive,hlast⟩:=h2.led.open_
   have hpn:=hos.len
   obtain⟨ad2,y,yA,yn,yc,rfl,hab2,hck2,hop2,hss2⟩:=hos.at_ (k:=i) (by omega)
   have hsite:siteL os (x.n-2)=y.site:=by
    unfold siteL
    have e:(x.n-2).toNat=i:=by omega
    rw [e,hck2]
   by_cases hs:y.site=x.site
   ·have hto':shipTo os ops=os.take m++ops.drop (hadN os ops):=by rw [hto,if_neg fun hh=>hh.2 (hsite.trans hs)]
    exact sh16_ok h2 hbx hgb rfl hop2 (by omega) (by omega) hi hkb (by simp [hs]) (K:=L) (fun a' W' hf' hb'=>hL a' W' (next a' W' hf' hb' hto')) a4 hf4
   ·have hto':shipTo os ops=os:=by rw [hto,if_pos ⟨hk3,fun e=>hs (hsite.symm.trans e)⟩]
    rw [hto']
    exact sh16_gap (h2.more (Nat.le_add_right k 80)) hbx hgb rfl hop2 (by omega) (by omega) hi hkb (by simp [hs]) a4 hf4
 ·obtain hje:hadN os ops=qn:=by omega
  have hnone:ops[hadN os ops]? = none:=List.getElem?_eq_none (by omega)
  have hto:shipTo os ops=os:=by unfold shipTo;rw [hnone]
  rw [hje] at hfr
  refine sh13_all h _ a hfr fun a2 hf2=>?_
  refine hK a2 W ?_
  rw [hto]
  exact ship_tail2 (h.more (by omega)) a2 ⟨hf2.1,hf2.2.1,hf2.2.2.1,hf2.2.2.2.2.1,hf2.2.2.2.2.2.1,trivial⟩
end
@[reducible] def rledC (A:O) (n c:Nat) (lA:O) (ln lc:Nat) (fence st:Int):Array Value:=#[.slice A n c,.slice lA ln lc,fence,st,.int .i64 65536,.int .i64 64]
structure RLed (w:World) (B:Nat) (X:Nat->Prop) (b:Nat) (os:List OpC) (A:O) (n c:Nat) (lA:O) (ln lc:Nat) (fence st:Int):Prop where
 blk:Blk w b 62 (rledC A n c lA ln lc fence st)
 row:RowIs w B X A n c os
 lost:∃ xs,w.ownsRow B 45 9 (.slice lA ln lc) ln xs
 nb:¬ X b
 bb:B<=b
 nl:∀ q,ob lA=some q->¬ X q/\q≠b
 xlt:∀ q,X q->B<=q/\q<w
def RAll (X:Nat->Prop) (b:Nat) (lA:O):Nat->Prop:=fun q=>X q\/q=b\/ob lA=some q
section
variable {w w' w'':World} {B b:Nat} {X:Nat->Prop} {os:List OpC} {A:O} {n c:Nat} {lA:O} {ln lc:Nat} {fence st:Int}
section
variable (h:RLed w B X b os A n c lA ln lc fence st)
include h
theorem RLed.lostLt:∀ q,ob lA=some q->B<=q/\q<w:=by
 obtain⟨xs,h1⟩:=h.lost
 intro q hq
 exact h1.lt q (by rw [ownBlock_slice];exact hq)
theorem RLed.allLt:∀ q,RAll X b lA q->B<=q/\q<w:=by
 rintro q (hx|rfl|hx)
 ·exact h.xlt q hx
 ·exact⟨h.bb,h.blk.lt⟩
 ·exact h.lostLt q hx
theorem RLed.keep (hk:Kept (RAll X b lA) w w'):RLed w' B X b os A n c lA ln lc fence st:=by
 have hl:=h.lostLt
 obtain⟨xs,hx⟩:=h.lost
 refine⟨(hk.2 b (.inr (.inl rfl)) h.blk.lt).trans h.blk,h.row.kept (hk.mono fun q _ x=>.inl x),⟨xs,ownsRow_keep hx fun q hq=>?_⟩,h.nb,h.bb,h.nl,fun q hq=>⟨(h.xlt q hq).1,Nat.lt_of_lt_of_le (h.xlt q hq).2 hk.1⟩⟩
 rw [ownBlock_slice] at hq
 exact hk.2 q (.inr (.inr hq)) (hl q hq).2
theorem RLed.below (hb:Below w w w'):RLed w' B X b os A n c lA ln lc fence st:=h.keep (Kept.of _ hb)
theorem RLed.len:os.length=n:=h.row.len
end
end
def RLedIs (w:World) (B b:Nat) (Y:Nat->Prop) (k:Nat) (os:List OpC) (fence:Int):Prop:=
 (∀ q,Y q->B<=q/\q<w)/\Rows os/\∃ X A n c lA ln lc st,RLed w B X b os A n c lA ln lc fence st/\(∀ q,RAll X b lA q->Y q)/\ln<=k
def RActed (B b:Nat) (Y:Nat->Prop) (k:Nat) (os:List OpC) (fence:Int) (w w':World):Prop:=
 RLedIs w' B b (New Y w w') k os fence/\Kept (fun q=>¬ Y q) w w'/\Below B w w'
section
variable {w w' w'':World} {B b:Nat} {Y Y':Nat->Prop} {k:Nat} {os os':List OpC} {fence fence':Int}
section
variable {k' q0:Nat} {w1 w2 w3:World}
section
variable (h:RLedIs w B b Y k os fence)
include h
theorem RLedIs.mono (hi:∀ q,q<w.heap.size->Y q->Y' q) (hl:∀ q,Y' q->B<=q/\q<w):RLedIs w B b Y' k os fence:=by
 obtain⟨h0,h3,X,A,n,c,lA,ln,lc,st,h1,h2,h4⟩:=h
 exact⟨hl,h3,X,A,n,c,lA,ln,lc,st,h1,fun q hq=>hi q (h1.allLt q hq).2 (h2 q hq),h4⟩
theorem RLedIs.more (hk:k<=k'):RLedIs w B b Y k' os fence:=by
 obtain⟨h0,h3,X,A,n,c,lA,ln,lc,st,h1,h2,h4⟩:=h
 exact⟨h0,h3,X,A,n,c,lA,ln,lc,st,h1,h2,by omega⟩
theorem RLedIs.kept (hk:Kept Y w w'):RLedIs w' B b Y k os fence:=by
 obtain⟨h0,h3,X,A,n,c,lA,ln,lc,st,h1,h2,h4⟩:=h
 exact⟨fun q hq=>⟨(h0 q hq).1,Nat.lt_of_lt_of_le (h0 q hq).2 hk.1⟩,h3,X,A,n,c,lA,ln,lc,st,h1.keep (hk.mono fun q _ hq=>h2 q hq),h2,h4⟩
theorem RLedIs.below (hb:Below w w w'):RLedIs w' B b Y k os fence:=h.kept (Kept.of _ hb)
theorem RLedIs.bY:Y b:=by
 obtain⟨h0,h3,X,A,n,c,lA,ln,lc,st,h1,h2,h4⟩:=h
 exact h2 b (.inr (.inl rfl))
theorem RLedIs.rows:Rows os:=h.2.1
theorem RLedIs.open_:∃ A n c lA ln lc st,Blk w b 62 (rledC A n c lA ln lc fence st)/\OpsIs w Y A n c os:=by
 obtain⟨h0,h3,X,A,n,c,lA,ln,lc,st,h1,h2,h4⟩:=h
 exact⟨A,n,c,lA,ln,lc,st,h1.blk,h1.row.opsIs.mono fun q _ hq=>h2 q (.inl hq)⟩
theorem RActed.idle (hb:Below w w w') (hB:B<=w):RActed B b Y k os fence w w':=
 ⟨(h.below hb).mono (fun _ _ x=>.inl x) (New.lt h.1 hB hb.size),Kept.of _ hb,hb.mono hB⟩
end
theorem RActed.more (h:RActed B b Y k os fence w w') (hk:k<=k'):RActed B b Y k' os fence w w':=⟨h.1.more hk,h.2⟩
theorem RActed.trans (hY:∀ q,Y q->B<=q/\q<w) (h:RActed B b Y k os fence w w') (h':RActed B b (New Y w w') k' os' fence' w' w'') (hB:B<=w):RActed B b Y k' os' fence' w w'':=by
 have s1:=h.2.1.1
 have s2:=h'.2.1.1
 refine⟨h'.1.mono (fun q hq hx=>?_) (New.lt hY hB (by omega)),⟨by omega,fun q hq hlt=>(h'.2.1.2 q (fun hx=>hx.elim hq fun hx=>by omega) (by omega)).trans (h.2.1.2 q hq hlt)⟩,h.2.2.trans h'.2.2⟩
 rcases hx with (hx|hx)|hx
 ·exact .inl hx
 ·exact .inr ⟨hx.1,hq⟩
 ·exact .inr ⟨by omega,hq⟩
theorem RLedIs.set_ (h:RLedIs w B b Y k os fence) (hB:B<=w):(∀ f:Int,RActed B b Y k os f w (w.setCell ⟨b,2,none⟩ (.int .i64 f)))/\∀ f:Int,RActed B b Y k os fence w (w.setCell ⟨b,3,none⟩ (.int .i64 f)):=by
 obtain⟨h0,h3,X,A,n,c,lA,ln,lc,st,h1,h2,h4⟩:=h
 have hgen:∀ (i:Nat) (v:Value) (f s:Int),Blk (w.setCell ⟨b,i,none⟩ v) b 62 (rledC A n c lA ln lc f s)->RActed B b Y k os f w (w.setCell ⟨b,i,none⟩ v):=by
  intro i v f s hb
  have hne:∀ q,q≠b->(w.setCell ⟨b,i,none⟩ v).heap[q]? = w.heap[q]?:=fun q hq=>Below.heap_setCell _ _ _ q hq
  have hsz:(w.setCell ⟨b,i,none⟩ v).heap.size=w.heap.size:=by simp
  have hk:Kept (fun q=>q≠b) w (w.setCell ⟨b,i,none⟩ v):=(Kept.refl _ _).set_ ⟨b,i,none⟩ (.inl fun h=>h rfl) _
  obtain⟨xs,hx⟩:=h1.lost
  refine⟨⟨New.lt h0 hB (by omega),h3,X,A,n,c,lA,ln,lc,s,⟨hb,h1.row.kept (hk.mono fun q _ hq e=>h1.nb (e▸hq)),⟨xs,ownsRow_keep hx fun q hq=>hne q ?_⟩,h1.nb,h1.bb,h1.nl,fun q hq=>by rw [hsz];exact h1.xlt q hq⟩,fun q hq=>.inl (h2 q hq),h4⟩,hk.mono fun q _ hn e=>hn (e▸h2 b (.inr (.inl rfl))),(Below.refl _ _).setCell (p:=⟨b,i,none⟩) h1.bb _⟩
  rw [ownBlock_slice] at hq
  exact (h1.nl q hq).2
 exact⟨fun f=>hgen 2 _ f st (h1.blk.set_ 2 _),fun f=>hgen 3 _ fence f (h1.blk.set_ 3 _)⟩
theorem RActed.boxed (hY:∀ q,Y q->B<=q/\q<w) (hB:B<=w) (hb1:Below w w w1) (h:RActed B b Y k os fence w1 w2) (hb:w.heap.size<=q0/\q0<w1) (hk:Kept (fun q=>q≠q0) w2 w3) (hl:Below q0 w2 w3):RActed B b Y k os fence w w3:=by
 exact Y39
end
end
section
variable {fence fence' st st':Int} {os os':List OpC} {B b c c' k lc lc' ln ln' n n':Nat} {X X' Y:Nat->Prop} {A A' lA lA':O} {W w w0:World}
theorem RLed.row_ (h:RLed w0 B X b os A n c lA ln lc fence st) (h1:RowIs W B (New X w0 W) A' n' c' os') (h2:Kept (fun q=>¬ X q) w0 W) (h3:Below B w0 W) (hB:B<=w0) :
 RLed (W.setCell ⟨b,0,none⟩ (.slice A' n' c')) B (New X w0 W) b os' A' n' c' lA ln lc fence st/\Kept (fun q=>¬ X q/\q≠b) w0 (W.setCell ⟨b,0,none⟩ (.slice A' n' c'))/\Below B w0 (W.setCell ⟨b,0,none⟩ (.slice A' n' c')):=by
 have hg:=(h2.2 b h.nb h.blk.lt).trans h.blk
 refine⟨?_,(h2.mono fun q _ h=>h.1).set_ ⟨b,0,none⟩ (.inl fun h=>h.2 rfl) _,h3.setCell (p:=⟨b,0,none⟩) h.bb _⟩
 have hne:∀ q,q≠b->(W.setCell ⟨b,0,none⟩ (.slice A' n' c')).heap[q]? = W.heap[q]?:=fun q hq=>Below.heap_setCell _ _ _ q hq
 have hk:Kept (fun q=>q≠b) W (W.setCell ⟨b,0,none⟩ (.slice A' n' c')):=(Kept.refl _ _).set_ ⟨b,0,none⟩ (.inl fun h=>h rfl) _
 have ng':¬ New X w0 W b:=fun h'=>h'.elim h.nb fun h'=>by have:=h.blk.lt;omega
 obtain⟨xs,hlost⟩:=h.lost
 refine⟨Blk.set_ hg 0 _,h1.kept (hk.mono fun q _ h' e=>ng' (e▸h')),⟨xs,ownsRow_keep hlost fun q hq=>?_⟩,ng',h.bb,?_,?_⟩
 ·rw [ownBlock_slice] at hq
  exact (hne q (h.nl q hq).2).trans (h2.2 q (h.nl q hq).1 (h.lostLt q hq).2)
 ·exact fun q hq=>⟨fun h'=>h'.elim (h.nl q hq).1 fun h'=>by have:=(h.lostLt q hq).2;omega,(h.nl q hq).2⟩
 ·intro q hq
  have e:(W.setCell ⟨b,0,none⟩ (.slice A' n' c')).heap.size=W.heap.size:=by simp
  rw [e]
  rcases hq with hq|hq
  ·exact⟨(h.xlt q hq).1,Nat.lt_of_lt_of_le (h.xlt q hq).2 h2.1⟩
  ·exact⟨Nat.le_trans hB hq.1,hq.2⟩
theorem RActed.of (hY:∀ q,Y q->B<=q/\q<w) (hB:B<=w) (hX:∀ q,RAll X b lA q->Y q) (h:RLed W B X' b os' A' n' c' lA' ln' lc' fence' st') (hr:Rows os') (hk:Kept (fun q=>¬ RAll X b lA q) w W) (hl:Below B w W) (hX':∀ q,X' q->X q\/w.heap.size<=q) (hlA:∀ q,ob lA'=some q->ob lA=some q\/w.heap.size<=q) (hln:ln'<=k):RActed B b Y k os' fence' w W:=by
 refine⟨⟨New.lt hY hB hk.1,hr,X',A',n',c',lA',ln',lc',st',h,fun q hq=>?_,hln⟩,hk.mono fun q _ hq hx=>hq (hX q hx),hl⟩
 have hlt:=(h.allLt q hq).2
 rcases hq with hq|hq|hq
 ·exact (hX' q hq).elim (fun h=>.inl (hX q (.inl h))) fun h=>.inr ⟨h,hlt⟩
 ·exact .inl (hX q (.inr (.inl hq)))
 ·exact (hlA q hq).elim (fun h=>.inl (hX q (.inr (.inr h)))) fun h=>.inr ⟨h,hlt⟩
end
@[reducible] noncomputable def rappFF:Func:=Try.f51
def AppS (w:World) (B:Nat) (X:Nat->Prop) (os:List OpC) (pn:Nat) (o:OpC) (cs:Array Value) (R:World->Prop):List Value->World->Prop
 | [],W=>W=w
 | [u],W=>u=.slice (some ⟨w.heap.size,0,none⟩) 1 1/\W=w.alloc (.cells cs 45)
 | [_,u],W=>∃ A' c',u=.slice A' 1 c'/\OpsIs W (From (w.heap.size+1)) A' 1 c' [o]/\Below w w W
 | [_,_,u],W=>∃ A' c',u=.slice A' (pn+1) c'/\RowIs W B (New X w W) A' (pn+1) c' (os++[o])/\Kept (fun b=>¬ X b) w W/\Below B w W
 | [_,_,_,_],W=>R W
 | _,_=>False
section
variable {cs:Array Value} {ep fence st:Int} {os:List OpC} {vs:List Value} {B b5 b8 c g k lc ln n pc pn:Nat} {S X Y:Nat->Prop} {A lA pA:O} {o:OpC} {v0 v2:Value} {W w:World} {R:World->Prop}
theorem AppS.some (h:AppS w B X os pn o cs R vs W) (hl:vs.length<=2):Below w w W:=by
 exact Y99
theorem rapp4 (Q:Z) (a:Act) (hfr:Fr 36 a [(0,g),(2,v2),(5,b5),(8,b8)]) (h:RLed w B X g os pA pn pc lA ln lc fence st) (hb5:Blk w b5 45 (oC o.n o.epoch o.kind o.site o.client o.seq o.name o.size A n c)) (hs:StrIs w S A n c o.hs) (hok:o.Ok) (hB:B<=w) (hn:pn<=1000) (hQ:∀ a' W,Fr 36 a' [(0,g),(2,v2),(5,b5),(8,b8)]->(∃ A' c' X',RLed W B X' g (os++[o]) A' (pn+1) c' lA ln lc fence st/\Kept (fun b=>¬ X b/\b≠g) w W/\Below B w W/\∀ b,X' b->X b\/w.heap.size<=b)->Q .normal a' W) :
 (part [1,1,1,1,0] (codeOf rappFF)).wp prog Q a w:=by
 have hd:RLed w.drew B X g os pA pn pc lA ln lc fence st:=h.keep ⟨Nat.le_refl _,fun _ _ _=>rfl⟩
 have ho:Blk w.drew b5 45 (oC o.n o.epoch o.kind o.site o.client o.seq o.name o.size A n c):=hb5
 have hs':StrIs w.drew S A n c o.hs:=hs.below ⟨rfl,rfl,rfl,Nat.le_refl _,fun _ _=>rfl⟩
 have hB':B<=w.drew.heap.size:=hB
 have HQ:=J (show ∀ a' W,Fr 36 a' [(0,g),(2,v2),(5,b5),(8,b8)]->(∃ A' c' X',RLed W B X' g (os++[o]) A' (pn+1) c' lA ln lc fence st/\Kept (fun b=>¬ X b/\b≠g) w.drew W/\Below B w.drew W/\∀ b,X' b->X b\/w.drew.heap.size<=b)->Q .normal a' W from fun a' W hf hh=>hQ a' W hf (by obtain⟨A',c',X',h1,h2,h3,h4⟩:=hh;exact⟨A',c',X',h1,h2,⟨h3.os,h3.tape,h3.output,h3.size,h3.block⟩,h4⟩))
 clear h hb5 hs hB hQ
 obtain⟨w0,hw0⟩:∃ w0,w0=w.drew:=⟨_,rfl⟩
 rw [<-hw0] at hd ho hs' hB' HQ
 have HX:Hid (∀ k,ob pA=some k->X k):=J (by obtain⟨ds,_,_,h3⟩:=hd.row;exact h3)
 obtain⟨HL,HO,HS,HK,HB,HN⟩:=J6 hd ho hs' hok hB' hn
 clear hd ho hs' hok hB' hn
 refine gg hfr fun t=>?_
 generalize w=w1 at hw0 ⊢
 have HW0:=J hw0
 clear hw0
 refine wp_region_chain kr [6,7,8,11] (fun i=>match i with|0=>g|1=>g|2=>g|3=>g|4=>.slice pA pn pc|5=>.agg #[.int .i64 o.n,o.epoch,o.kind,o.site,o.client,o.seq,.string o.name,o.size,.slice A n c]|9=>g|10=>g|_=>undef) (AppS w0 B X os pn o (oC o.n o.epoch o.kind o.site o.client o.seq o.name o.size A n c) (fun W=>∃ A' c' X',RLed W B X' g (os++[o]) A' (pn+1) c' lA ln lc fence st/\Kept (fun b=>¬ X b/\b≠g) w0 W/\Below B w0 W/\∀ b,X' b->X b\/w0.heap.size<=b)) (fun s i=>s==8&&decide (1<=i/\i<=8)) kr kr kr kr ?hS ?hfree ?hlink ?hend
 case hS=>exact HW0.out.symm
 case hfree=>
  intro i o F U vs W ho hni hS hlen hlim hat hoff hd
  have e0:=oo 0 g
  have t0:=act_tmp e0
  have e5:=oo 5 b5
  have t5:=act_tmp e5
  obtain⟨qa,qb⟩:=J2 hat hd
  clear hat hoff hd
  match i with
  | 0|1=>
   exact Y51
  | 2=>
   cases ho
   have t21:=act_tmp (fev qa qb 1 21)
   exact vl ⟨rfl,rfl⟩
  | 3=>
   cases ho
   have t22:=act_tmp (fev qa qb 2 22)
   exact vl ⟨rfl,rfl⟩
  | 4=>
   cases ho
   have t23:=act_tmp (fev qa qb 3 23)
   have hsm:=hS.some (hlim 2 8 rfl rfl)
   exact Y202
  | 5=>
   exact Y117
  | 6|7|8|11=>
   exact Y76
  | 9=>
   cases ho
   have t20:=act_tmp (fev qa qb 0 20)
   exact vl ⟨rfl,rfl⟩
  | 10=>
   cases ho
   have t29:=act_tmp (fev qa qb 9 29)
   exact vl ⟨rfl,rfl⟩
  | i+12=>exact absurd ho (by simp)
 case hlink=>
  intro k i o F U vs W hk ho hS hvl hat hoff hd
  have:=ot 0 g
  have:=ot 5 b5
  obtain⟨qa,qb⟩:=J2 hat hd
  clear hat hoff hd
  match k with
  | 0=>
   exact Y70
  | 1=>
   cases hk;cases ho;obtain⟨u0,rfl⟩:=ln1 hvl;have e26:=cev qa qb 6 26;have t26:=act_tmp e26;obtain⟨rfl,rfl⟩:=hS;obtain⟨w1,hw1⟩:∃ w1,w1=w0.alloc (.cells (oC o.n o.epoch o.kind o.site o.client o.seq o.name o.size A n c) 45):=⟨_,rfl⟩;rw [<-hw1]
   have hb1:Below w0 w0 w1:=by rw [hw1];exact (Below.refl _ _).alloc (Nat.le_refl _) _
   have hz1:w1.heap.size=w0.heap.size+1:=by rw [hw1];simp
   have hblk:Blk w1 w0 45 (oC o.n o.epoch o.kind o.site o.client o.seq o.name o.size A n c):=by rw [hw1];exact Blk.new _ _ _
   have hop:OpsIs w1 Any (some ⟨w0.heap.size,0,none⟩) 1 1 [o]:=⟨[o.at_ A n c],Rs.of (hblk.reads (n:=1) (size:=9) rfl) fun _ _ _=>trivial,⟨⟨A,n,c,rfl,(HS.out.mono fun _ _ _=>trivial).below hb1⟩,trivial⟩,by omega,by unfold maxLen;omega⟩
   refine wp_enter' 34 #[.slice (some ⟨w0.heap.size,0,none⟩) 1 1] (by unfold execOp;go_simp) ?_
   refine (ownOps_any _ 1 1 [o] w1 hop (by omega) (fun x hx=>by rw [List.mem_singleton] at hx;subst hx;exact HK.out)).mono ?_
   exact Y155
  | 2=>
   exact Y17
  | 3=>
   cases hk;cases ho;obtain⟨u0,u1,u2,rfl⟩:=ln3 hvl;have e30:=fev qa qb 10 30;have t30:=act_tmp e30;have e28:=cev qa qb 8 28;have t28:=act_tmp e28;obtain⟨A',c',hu,h1,h2,h3⟩:=hS;rw [hu] at e28;have t28:=act_tmp e28;have hg:=(h2.2 g HL.out.nb HL.out.blk.lt).trans HL.out.blk;have f5:W.frozen? ⟨g,0,none⟩=false:=Blk.frozen hg 0;have d5:=Blk.cell hg 0;simp at d5;obtain⟨q1,q2,q3⟩:=HL.out.row_ h1 h2 h3 HB.out
   exact wp_skip' (W.setCell ⟨g,0,none⟩ (.slice A' (pn+1) c')) (by unfold execOp;go_simp) ⟨_,rfl,A',c',_,q1,q2,q3,fun b hb=>Or.imp id (fun h=>h.1) (show New X w0 W b from hb)⟩
  | k+4=>exact absurd hk (by simp)
 case hend=>
  intro U vs W hS hvl hfr hch
  obtain⟨x0,x1,x2,x3,rfl⟩:=ln4 hvl
  exact Y32
theorem rapp5 (G:Ending->World->Prop) (a:Act) (hfr:Fr 36 a [(0,v0),(2,ep),(5,b5),(8,b8)]) (hb5:Blk w b5 45 (oC o.n o.epoch o.kind o.site o.client o.seq o.name o.size A n c)) (h8:Blk w b8 50 #[.int .i64 0,.int .i64 0,.int .i64 0]) (hG:∀ W,Kept (fun q=>q≠b8) w W->Below b8 w W->G (.returned (doneV 0 o.n ep)) W) :
 (part [1,1,1,1,1] (codeOf rappFF)).wp prog (bodyPost prog rappFF G) a w:=by
 have d0:=hb5.c1 0
 have HG:=J hG
 clear hb5 hG
 refine gg hfr fun t=>?_
 obtain⟨W,HWW,z0,z1,z2,HKK,HLL,y0,y1,y2,f0⟩:=de h8 0 o.n ep
 clear h8
 go_wp2
 rw [<-HWW.out]
 refine dr 0 o.n ep ?_
 exact HG.out _ HKK.out HLL.out
theorem rapp_any (epoch site:Int) (h:RLedIs w B g Y k os fence) (hs:StrIs w S A n c o.hs) (hl:os.length<80) (ho:opB (newOp os o epoch site)=true) (hB:B<=w) :
 Calls prog 51 #[.pointer (some ⟨g,0,none⟩),.agg (oC o.n o.epoch o.kind o.site o.client o.seq o.name o.size A n c),epoch,site] w fun x w'=>
  (∃ e n ep,x=.returned (doneV e n ep))/\RActed B g Y k (os++[newOp os o epoch site]) fence w w':=by
 obtain⟨hY,hr,X,pA,pn,pc,lA,ln,lc,st,hl0,hX,hln⟩:=h
 have hpn:=hl0.len
 have hgl:=hl0.blk.lt
 obtain⟨N,hN⟩:∃ N:Int,N=os.length+1:=⟨_,rfl⟩
 have hnew:newOp os o epoch site={o with n:=N,epoch:=epoch,site:=site}:=by rw [hN];rfl
 have ho2:=ho
 rw [hnew] at ho
 obtain⟨w1,hw1⟩:∃ w1,w1=(w.alloc (.cells (oC N epoch o.kind site o.client o.seq o.name o.size A n c) 45)).alloc (.cells #[.int .i64 0,.int .i64 0,.int .i64 0] 50):=⟨_,rfl⟩
 have hz1:w1.heap.size=w.heap.size+2:=by rw [hw1];simp
 have hb1:Below w w w1:=by
  rw [hw1]
  exact ((Below.refl _ _).alloc (Nat.le_refl _) _).alloc (by simp) _
 have h5:Blk w1 w 45 (oC N epoch o.kind site o.client o.seq o.name o.size A n c):=by
  exact Y150
 have h8:Blk w1 (w.heap.size+1) 50 #[.int .i64 0,.int .i64 0,.int .i64 0]:=by
  exact Y78
 have nX:∀ b,w.heap.size<=b->¬ X b:=fun b h1 h2=>by have:=(hl0.xlt b h2).2;omega
 have rest:∀ a,Fr 36 a [(0,g),(2,epoch),(5,(w:Nat)),(8,(w.heap.size+1:Nat))]->
  (part [1,1,1,1] (codeOf rappFF)).wp prog (bodyPost prog rappFF fun x w'=>(∃ e n ep,x=.returned (doneV e n ep))/\RActed B g Y k (os++[newOp os o epoch site]) fence w w') a w1:=by
  intro a hfr
  refine Ytaipgdhdfpemcaa.w2 ?_
  refine rapp4 (o:={o with n:=N,epoch:=epoch,site:=site}) _ a hfr (hl0.below hb1) h5 (hs.below hb1) (opB_fits ho).ok (by omega) (by omega) fun a2 w2 hf2 hh=>?_
  obtain⟨A',c',X',e1,e2,e3,e4⟩:=hh
  have s2:=e2.1
  have h52:=(e2.2 w.heap.size ⟨nX _ (Nat.le_refl _),by omega⟩ (by omega)).trans h5
  have h82:=(e2.2 (w.heap.size+1) ⟨nX _ (by omega),by omega⟩ (by omega)).trans h8
  refine rapp5 (o:={o with n:=N,epoch:=epoch,site:=site}) _ a2 hf2 h52 h82 fun W hk hlw=>⟨⟨_,_,_,rfl⟩,?_⟩
  rw [hnew]
  have hrl:=hl0.lostLt
  have hX4:∀ b,X' b->b≠w.heap.size+1:=fun b hb e=>by
   subst e
   rcases e4 _ hb with hb|hb
   ·exact nX _ (by omega) hb
   ·omega
  refine RActed.of hY hB hX (e1.keep (hk.mono fun b hlt hb e=>?_)) (by rw [<-hnew];exact hr.snoc rfl ho2) ⟨by have:=hk.1;omega,fun q hq hlt=>((hk.2 q (by omega) (by omega)).trans (e2.2 q ⟨fun h=>hq (.inl h),fun h=>hq (.inr (.inl h))⟩ (by omega))).trans (hb1.block q hlt)⟩ (((hb1.mono hB).trans e3).trans (hlw.mono (by omega))) (fun q hq=>(e4 q hq).imp id fun h=>by omega) (fun q hq=>.inl hq) hln
  subst e
  rcases hb with hb|hb|hb
  ·exact hX4 _ hb rfl
  ·omega
  ·have:=(hrl _ hb).2;omega
 obtain⟨HR,HW⟩:=J2 rest hw1
 have c5:=((hl0.blk.alloc (.cells (oC o.n o.epoch o.kind o.site o.client o.seq o.name o.size A n c) 45)).alloc (.cells #[.int .i64 0,.int .i64 0,.int .i64 0] 50)).cell 0
 simp at c5
 have z1:IntKind.i64.wrap ((pn:Int)+1)=N:=by rw [IntKind.wrap_i64];omega
 clear rest hw1 hl0 hs hl ho ho2 hB hnew hN hb1 h5 h8 hz1 hY hr hX hln nX
 go_enter func51,ntmps51
 conv=>arg 2;arg 2;arg 2;arg 2;arg 2;change part [1,1,1,1] (codeOf rappFF)
 exact Y164
end
section
variable {ss:List ByteArray} {c k n:Nat} {S:Nat->Prop} {A:O} {w:World}
theorem putS_end:∀ (l:List ByteArray) (s:ByteArray),(∀ x∈l,ltN x s=true)->putS l s=l++[s]
 | [],s,_=>rfl
 | b::r,s,h=>by
  unfold putS
  rw [if_pos (h b (by simp)),putS_end r s fun x hx=>h x (by simp [hx])]
  rfl
theorem putS_at:∀ (l:List ByteArray) (s:ByteArray) (k:Nat) (x:ByteArray),(∀ (j:Nat) (y:ByteArray),l[j]? = some y->j<k->ltN y s=true)->l[k]? = some x->ltN x s=false->
 putS l s=if x=s then l else l.take k++s::l.drop k
 | [],s,k,x,_,hx,_=>by simp at hx
 | b::r,s,0,x,_,hx,hn=>by
  simp at hx
  subst hx
  unfold putS
  rw [if_neg (by rw [hn];decide)]
  by_cases e:b=s
  ·rw [if_pos e,if_pos e]
  ·rw [if_neg e,if_neg e];rfl
 | b::r,s,k+1,x,h,hx,hn=>by
  have h0:=h 0 b rfl (by omega)
  unfold putS
  rw [if_pos h0,putS_at r s k x (fun j y hy hj=>h (j+1) y (by simpa using hy) (by omega)) (by simpa using hx) hn]
  by_cases e:x=s
  ·rw [if_pos e,if_pos e]
  ·rw [if_neg e,if_neg e];rfl
theorem StrIs.at_ (h:StrIs w S A n c ss) (hk:k<n):∃ ad s,A=some ad/\(ad.add k).block<w/\ss[k]? = some s/\w.cell? (ad.add k)=some (.string s):=by
 have hl:=h.len
 obtain⟨ad,rfl,_,hb,hc⟩:=h.1.2 (by omega)
 obtain⟨s,hs⟩:∃ s,ss[k]? = some s:=⟨_,List.getElem?_eq_getElem (by omega)⟩
 exact⟨ad,s,rfl,by rw [block_of_add];exact hb,hs,hc k _ (by simp [strV,hs])⟩
end
@[reducible] noncomputable def rdoFF:Func:=Try.f48
theorem rdb1 {w w1:World} {B g:Nat} {Y:Nat->Prop} {k:Nat} {os:List OpC} {fence:Int} (kind epoch site:Int) (o:OpC) (hA:O) (hn hc:Nat) (after since:Int) (qA:O) (qn qc:Nat) (tag:Int) {ad:Addr} {pn pc j:Nat} {x:OpC} {xA:O} {xn xc:Nat} {cs:Array Value} (h:RLedIs w B g Y k os fence) (hB:B<=w) (hz1:w.heap.size+2<=w1) (hb1:Below w w w1) (h5:Blk w1 w 47 (cmdC kind epoch site o hA hn hc after since qA qn qc tag)) (h8:Blk w1 (w.heap.size+1) 50 #[.int .i64 0,.int .i64 0,.int .i64 0]) (hg:Blk w1 g 62 cs) (hg0:cs[0]? = some (.slice (some ad) pn pc)) (hj:j<pn) (hop:OpAt w1 (ad.add (j*9)) (x.at_ xA xn xc)) (e1:(x.kind==3)=true) (a:Act) (hfr:Fr 144 a [(0,g),(3,(w:Nat)),(4,(w.heap.size+1:Nat)),(6,.int .i64 (j:Nat))]) (Q:Z) (hQ:∀ a' W,Fr 144 a' [(0,g),(3,(w:Nat)),(4,(w.heap.size+1:Nat)),(6,.int .i64 (j:Nat))]->Below w1 w1 W->Q (.exit 1) a' W) :
 (part [1,1,1,0,1,0,0,1,0,0] (codeOf rdoFF)).wp prog Q a w1:=by
 exact Y15
section
variable {ad:Addr} {cs:Array Value} {fence:Int} {os:List OpC} {B g j k pc pn xc xn:Nat} {Y:Nat->Prop} {xA:O} {x:OpC} {w w1:World}
section
variable (kind epoch site:Int) (o:OpC) (hA:O) (hn hc:Nat) (after since:Int) (qA:O) (qn qc:Nat) (tag:Int) (h:RLedIs w B g Y k os fence) (hB:B<=w) (hz1:w.heap.size+2<=w1) (hb1:Below w w w1) (h5:Blk w1 w 47 (cmdC kind epoch site o hA hn hc after since qA qn qc tag)) (h8:Blk w1 (w.heap.size+1) 50 #[.int .i64 0,.int .i64 0,.int .i64 0]) (hg:Blk w1 g 62 cs) (hg0:cs[0]? = some (.slice (some ad) pn pc)) (hj:j<pn) (hop:OpAt w1 (ad.add (j*9)) (x.at_ xA xn xc)) (e1:(x.kind==3)=false)
include kind epoch site o hA hn hc after since qA qn qc tag h hB hz1 hb1 h5 h8 hg hg0 hj hop e1
theorem rdb2 (e2:(x.client != o.client)=true) (a:Act) (hfr:Fr 144 a [(0,g),(3,(w:Nat)),(4,(w.heap.size+1:Nat)),(6,.int .i64 (j:Nat))]) (Q:Z) (hQ:∀ a' W,Fr 144 a' [(0,g),(3,(w:Nat)),(4,(w.heap.size+1:Nat)),(6,.int .i64 (j:Nat))]->Below w1 w1 W->Q (.exit 1) a' W) :
 (part [1,1,1,0,1,0,0,1,0,0] (codeOf rdoFF)).wp prog Q a w1:=by
 exact Y15
section
variable (e2:(x.client != o.client)=false)
include e2
theorem rdb3 (e3:decide (o.seq<x.seq)=false) (e4:(x.seq==o.seq)=false) (a:Act) (hfr:Fr 144 a [(0,g),(3,(w:Nat)),(4,(w.heap.size+1:Nat)),(6,.int .i64 (j:Nat))]) (Q:Z) (hQ:∀ a' W,Fr 144 a' [(0,g),(3,(w:Nat)),(4,(w.heap.size+1:Nat)),(6,.int .i64 (j:Nat))]->Below w1 w1 W->Q (.exit 0) a' W) :
 (part [1,1,1,0,1,0,0,1,0,0] (codeOf rdoFF)).wp prog Q a w1:=by
 exact Y15
theorem rdb4 (e3:decide (o.seq<x.seq)=true) (a:Act) (hfr:Fr 144 a [(0,g),(3,(w:Nat)),(4,(w.heap.size+1:Nat)),(6,.int .i64 (j:Nat))]) (Q:Z) (hQ:∀ a W,bodyPost prog rdoFF (fun x w'=>(∃ e n ep,x=.returned (doneV e n ep))/\RActed B g Y k os fence w w') .ret a W->Q .ret a W) :
 (part [1,1,1,0,1,0,0,1,0,0] (codeOf rdoFF)).wp prog Q a w1:=by
 obtain⟨H8,HB1,HZ1,H0,HB,HQ⟩:=J6 h8 hb1 hz1 h hB hQ
 have g0:=hg.cell 0
 rw [hg0] at g0
 have k7:=(h5.alloc (.cells (oC x.n x.epoch x.kind x.site x.client x.seq x.name x.size xA xn xc) 45)).cell 7
 have k8:=(h5.alloc (.cells (oC x.n x.epoch x.kind x.site x.client x.seq x.name x.size xA xn xc) 45)).cell 8
 simp at k7 k8
 obtain⟨c0,c1,c2,c3,c4,c5,c6,c7,c8⟩:=hop
 simp only [OpC.at_] at c0 c1 c2 c3 c4 c5 c6 c7 c8
 have z2:(0:Int)<=(j:Nat):=by omega
 have z3:((j:Nat):Int)<((pn:Nat):Int):=by omega
 obtain⟨w2,hw2⟩:∃ w2,w2=w1.alloc (.cells (oC x.n x.epoch x.kind x.site x.client x.seq x.name x.size xA xn xc) 45):=⟨_,rfl⟩
 have hb12:Below w1 w1 w2:=by rw [hw2];exact (Below.refl _ _).alloc (Nat.le_refl _) _
 have h82:=h8.below hb12 h8.lt
 obtain⟨HW2,HB12⟩:=J2 hw2 hb12
 obtain⟨y0,y1,y2⟩:=h82.cs 0 3
 have f0:=h82.frozen
 rw [hw2] at y0 y1 y2 f0
 have H82:=J h82
 clear hw2 hb12 h82
 clear h hB hz1 hb1 h5 h8 hg hg0 hj hQ
 refine gg hfr fun t=>?_
 obtain⟨W,hW,z0,z1,z2,hk,hl⟩:=done_end H82.out rfl (.int .i64 124) (.int .i64 0) (.int .i64 0)
 obtain⟨HWW,HLL⟩:=J2 hW hl
 clear hk hl hW
 go_wp2_with fail
 rw [<-HW2.out,<-HWW.out]
 refine HQ.out _ _ (dr 124 0 0 ?_)
 exact Y151
theorem rdb5 (e3:decide (o.seq<x.seq)=false) (e4:(x.seq==o.seq)=true) (a:Act) (hfr:Fr 144 a [(0,g),(3,(w:Nat)),(4,(w.heap.size+1:Nat)),(6,.int .i64 (j:Nat))]) (Q:Z) (hQ:∀ a W,bodyPost prog rdoFF (fun x w'=>(∃ e n ep,x=.returned (doneV e n ep))/\RActed B g Y k os fence w w') .ret a W->Q .ret a W) :
 (part [1,1,1,0,1,0,0,1,0,0] (codeOf rdoFF)).wp prog Q a w1:=by
 obtain⟨H8,HB1,HZ1,H0,HB,HQ⟩:=J6 h8 hb1 hz1 h hB hQ
 have g0:=hg.cell 0
 rw [hg0] at g0
 have k7:=(h5.alloc (.cells (oC x.n x.epoch x.kind x.site x.client x.seq x.name x.size xA xn xc) 45)).cell 7
 have k8:=(h5.alloc (.cells (oC x.n x.epoch x.kind x.site x.client x.seq x.name x.size xA xn xc) 45)).cell 8
 simp at k7 k8
 obtain⟨c0,c1,c2,c3,c4,c5,c6,c7,c8⟩:=hop
 simp only [OpC.at_] at c0 c1 c2 c3 c4 c5 c6 c7 c8
 have z2:(0:Int)<=(j:Nat):=by omega
 have z3:((j:Nat):Int)<((pn:Nat):Int):=by omega
 obtain⟨w2,hw2⟩:∃ w2,w2=w1.alloc (.cells (oC x.n x.epoch x.kind x.site x.client x.seq x.name x.size xA xn xc) 45):=⟨_,rfl⟩
 have hb12:Below w1 w1 w2:=by rw [hw2];exact (Below.refl _ _).alloc (Nat.le_refl _) _
 have h82:=h8.below hb12 h8.lt
 obtain⟨HW2,HB12⟩:=J2 hw2 hb12
 obtain⟨y0,y1,y2⟩:=h82.cs 0 3
 have f0:=h82.frozen
 rw [hw2] at y0 y1 y2 f0
 have H82:=J h82
 clear hw2 hb12 h82
 clear h hB hz1 hb1 h5 h8 hg hg0 hj hQ
 refine gg hfr fun t=>?_
 obtain⟨W,hW,z0,z1,z2,hk,hl⟩:=done_end H82.out rfl (.int .i64 0) (.int .i64 x.n) (.int .i64 x.epoch)
 obtain⟨HWW,HLL⟩:=J2 hW hl
 clear hk hl hW
 go_wp2_with fail
 rw [<-HW2.out,<-HWW.out]
 refine HQ.out _ _ (dr 0 x.n x.epoch ?_)
 exact Y151
end
end
end
end Go.Proofs.Ytaipgdhdfpemcaa
