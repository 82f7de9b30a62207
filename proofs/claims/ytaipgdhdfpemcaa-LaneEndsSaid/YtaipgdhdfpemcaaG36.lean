/- THE WALKS OF THE LANE, part 36. -/
import Derived.Test.YtaipgdhdfpemcaaG32
import Derived.Test.YtaipgdhdfpemcaaG34
namespace Go.Proofs.Ytaipgdhdfpemcaa
set_option linter.all false
open Go.RowKit Go.Proofs.Try
set_option maxRecDepth 100000
set_option maxHeartbeats 4000000
structure ShipAt (w wb W:World) (B g:Nat) (Y S:Nat->Prop) (k:Nat) (os:List OpC) (epoch:Int) (C:Array Value) (qA:O) (qn qc:Nat) (ops:List OpC) (N E:Int):Prop where
 hY:∀ b,Y b->B<=b/\b<w
 hB:B<=w
 hz:w.heap.size+3<=wb
 size:wb.heap.size<=W
 led:LedIs W B g (New Y wb W) k os epoch
 kept:Kept (fun b=>¬ Y b) w W
 low:Below B w W
 h8:Blk W (w.heap.size+1) 50 #[.int .i64 0,.int .i64 0,.int .i64 0]
 h5:Blk W w 47 C
 hs:Blk W (w.heap.size+2) 26 #[N,E]
 hops:OpsIs W S qA qn qc ops
 hS:∀ b,S b->¬ Y b/\b<w
section
variable {w wb W W':World} {B g:Nat} {Y S:Nat->Prop} {k k':Nat} {os os':List OpC} {epoch epoch':Int} {C:Array Value} {qA:O} {qn qc:Nat} {ops:List OpC} {N E:Int}
section
variable (h:ShipAt w wb W B g Y S k os epoch C qA qn qc ops N E)
include h
theorem ShipAt.hBW:B<=W:=by
 have:=h.hz;have:=h.size;have:=h.hB;omega
theorem ShipAt.gne (i:Nat) (hi:i<3):¬ New Y wb W (w.heap.size+i):=fun h1=>by
 have hz:=h.hz
 rcases h1 with h1|h1
 ·have:=(h.hY _ h1).2;omega
 ·omega
theorem ShipAt.yb:∀ b,Y b->B<=b/\b<wb:=fun b hb=>⟨(h.hY b hb).1,by have:=(h.hY b hb).2;have:=h.hz;omega⟩
theorem ShipAt.acted (ha:Acted B g (New Y wb W) k' os' epoch' W W'):ShipAt w wb W' B g Y S k' os' epoch' C qA qn qc ops N E:=by
 have hz:=h.hz
 have s1:=h.size
 have s2:=ha.2.1.1
 have hB:=h.hB
 have hn:=h.gne
 refine⟨h.hY,h.hB,h.hz,by omega,ha.1.mono (fun b hb hx=>?_) (New.lt h.yb (by omega) (by omega)),⟨by omega,fun b hb hlt=>(ha.2.1.2 b (fun hx=>?_) (by omega)).trans (h.kept.2 b hb hlt)⟩,h.low.trans ha.2.2,(ha.2.1.2 _ (hn 1 (by omega)) (by omega)).trans h.h8,(ha.2.1.2 _ (hn 0 (by omega)) (by omega)).trans h.h5,(ha.2.1.2 _ (hn 2 (by omega)) (by omega)).trans h.hs,h.hops.kept (ha.2.1.mono fun b _ hb hx=>?_),h.hS⟩
 ·rcases hx with (hx|hx)|hx
  ·exact .inl hx
  ·exact .inr ⟨hx.1,hb⟩
  ·exact .inr ⟨by omega,hb⟩
 ·rcases hx with hx|hx
  ·exact hb hx
  ·omega
 ·have:=h.hS b hb
  rcases hx with hx|hx
  ·exact this.1 hx
  ·omega
theorem ShipAt.below (hb:Below W W W'):ShipAt w wb W' B g Y S k os epoch C qA qn qc ops N E:=
 h.acted (Acted.idle h.led hb h.hBW)
theorem ShipAt.spot (N' E':Int):ShipAt w wb ((W.setCell ⟨w.heap.size+2,0,none⟩ (.int .i64 N')).setCell ⟨w.heap.size+2,1,none⟩ (.int .i64 E')) B g Y S k os epoch C qA qn qc ops N' E':=by
 have hz:=h.hz
 have s1:=h.size
 have hB:=h.hB
 have hn:=h.gne 2 (by omega)
 have hk:Kept (fun b=>b≠w.heap.size+2) W ((W.setCell ⟨w.heap.size+2,0,none⟩ (.int .i64 N')).setCell ⟨w.heap.size+2,1,none⟩ (.int .i64 E')):=((Kept.refl _ _).set_ ⟨w.heap.size+2,0,none⟩ (.inl fun h=>h rfl) _).set_ ⟨w.heap.size+2,1,none⟩ (.inl fun h=>h rfl) _
 have hl:Below B W ((W.setCell ⟨w.heap.size+2,0,none⟩ (.int .i64 N')).setCell ⟨w.heap.size+2,1,none⟩ (.int .i64 E')):=((Below.refl _ _).setCell (p:=⟨w.heap.size+2,0,none⟩) (show B<=w.heap.size+2 by omega) _).setCell (p:=⟨w.heap.size+2,1,none⟩) (show B<=w.heap.size+2 by omega) _
 have hsz:((W.setCell ⟨w.heap.size+2,0,none⟩ (.int .i64 N')).setCell ⟨w.heap.size+2,1,none⟩ (.int .i64 E')).heap.size=W.heap.size:=by simp
 refine⟨h.hY,h.hB,h.hz,by omega,?_,⟨by omega,fun b hb hlt=>(hk.2 b (by omega) (by omega)).trans (h.kept.2 b hb hlt)⟩,h.low.trans hl,(hk.2 _ (by omega) (by omega)).trans h.h8,(hk.2 _ (by omega) (by omega)).trans h.h5,(h.hs.set_ 0 _).set_ 1 _,h.hops.kept (hk.mono fun b _ hb e=>?_),h.hS⟩
 ·have:=h.led.kept (hk.mono fun b _ hb e=>hn (e▸hb))
  exact this.mono (fun b hb hx=>hx.imp id fun hx=>⟨hx.1,hb⟩) (New.lt h.yb (by omega) (by omega))
 ·have:=(h.hS b hb).2;omega
theorem ShipAt.end_ (hk:Kept (fun q=>q≠w.heap.size+1) W W') (hl:Below (w.heap.size+1) W W'):Acted B g Y k os epoch w W':=by
 have hz:=h.hz
 have s1:=h.size
 have s2:=hk.1
 have hB:=h.hB
 have hn:=h.gne 1 (by omega)
 refine⟨(h.led.kept (hk.mono fun b _ hb e=>hn (e▸hb))).mono (fun b hb hx=>?_) (New.lt h.hY hB (by omega)),⟨by omega,fun b hb hlt=>(hk.2 b (by omega) (by omega)).trans (h.kept.2 b hb hlt)⟩,h.low.trans (hl.mono (by omega))⟩
 rcases hx with hx|hx
 ·exact .inl hx
 ·exact .inr ⟨by omega,hb⟩
end
end
theorem ship_tail2 {w wb w1:World} {B g:Nat} {Y S:Nat->Prop} {k:Nat} {os:List OpC} {fence N E:Int} {C:Array Value} {qA:O} {qn qc:Nat} {ops:List OpC} (h:ShipAt w wb w1 B g Y S k os fence C qA qn qc ops N E) (a:Act) (hfr:Fr 147 a [(0,g),(4,(w.heap.size+1:Nat)),(5,(w.heap.size+2:Nat))]) :
 (part [1,1,1,1,1,1,1,1,1] (codeOf shipLF)).wp prog (bodyPost prog shipLF fun x w'=>(∃ e n ep,x=.returned (doneV e n ep))/\Acted B g Y k os fence w w') a w1:=by
 obtain⟨m1,m2,pA,pn,pc,lA,ln,lc,settled,hgb,hos,hlive,hlast⟩:=h.led.open_
 refine wp_two (x:=part ([1,1,1,1,1,1,1,1,1]++[0]) (codeOf shipLF)) (y:=part ([1,1,1,1,1,1,1,1,1]++[1]) (codeOf shipLF)) kr ?_
 refine ship22 _ a hfr hgb h.hs fun a2 hf2=>?_
 have hd:Below w1 w1 w1.drew:=⟨rfl,rfl,rfl,Nat.le_refl _,fun _ _=>rfl⟩
 have h2:=(h.below hd).acted ((h.below hd).led.settled_ (max settled N) h.hBW)
 show (part ([1,1,1,1,1,1,1,1,1]++[1]) (codeOf shipLF)).wp prog _ a2 _
 refine ship_tailr _ a2 hf2 h2.h8 h2.hs fun W hk hlw=>?_
 exact⟨⟨_,_,_,rfl⟩,h2.end_ hk hlw⟩
section
variable {w wb W:World} {B g:Nat} {Y S:Nat->Prop} {k:Nat} {os:List OpC} {epoch0:Int} {kind epoch site:Int} {o:OpC} {hA:O} {hn hc:Nat} {after since:Int} {qA:O} {qn qc:Nat} {tag:Int} {ops:List OpC} {N E:Int} {j:Nat}
section
variable {x:OpC} {v3 v4 v5:Value}
section
variable (h:ShipAt w wb W B g Y S k os epoch0 (cmdC kind epoch site o hA hn hc after since qA qn qc tag) qA qn qc ops N E)
include h
theorem sh8_no (hj:qn<=j) (Q:Z) (a:Act) (hfr:Fr 147 a [(0,g),(3,(w:Nat)),(4,(w.heap.size+1:Nat)),(5,(w.heap.size+2:Nat)),(6,.int .i64 (j:Nat))]) (hQ:∀ a',Fr 147 a' [(0,g),(3,(w:Nat)),(4,(w.heap.size+1:Nat)),(5,(w.heap.size+2:Nat)),(6,.int .i64 (j:Nat))]->Q (.exit 0) a' W) :
 (part [1,1,1,1,1,1,0,0,0,0] (codeOf shipLF)).wp prog Q a W:=by
 have k14:=h.h5.c1 14
 have d1:decide ((j:Int)<(qn:Int))=false:=decide_eq_false (by omega)
 have d2:decide (j<qn)=false:=decide_eq_false (by omega)
 have HQ:=J hQ
 clear hQ h hj
 exact Y30
theorem sh8_yes (hx:ops[j]? = some x) (hxb:opB x=true) (Q:Z) (a:Act) (hfr:Fr 147 a [(0,g),(3,(w:Nat)),(4,(w.heap.size+1:Nat)),(5,(w.heap.size+2:Nat)),(6,.int .i64 (j:Nat))]) (hQ1:hasL os x.n x.epoch=true->∀ a' W',Fr 147 a' [(0,g),(3,(w:Nat)),(4,(w.heap.size+1:Nat)),(5,(w.heap.size+2:Nat)),(6,.int .i64 (j:Nat))]->Below W W W'->Q .normal a' W') (hQ2:hasL os x.n x.epoch=false->∀ a' W',Fr 147 a' [(0,g),(3,(w:Nat)),(4,(w.heap.size+1:Nat)),(5,(w.heap.size+2:Nat)),(6,.int .i64 (j:Nat))]->Below W W W'->Q (.exit 0) a' W') :
 (part [1,1,1,1,1,1,0,0,0,0] (codeOf shipLF)).wp prog Q a W:=by
 have k14:=h.h5.c1 14
 have hlen:=h.hops.len
 have hjl:=(List.getElem?_eq_some_iff.1 hx).1
 obtain⟨ad,o',oA,on,oc,rfl,hab,hck,hop,hss⟩:=h.hops.at_ (k:=j) (by omega)
 rw [hx] at hck
 injection hck with hck
 subst hck
 obtain⟨c0,c1,c2,c3,c4,c5,c6,c7,c8⟩:=hop
 simp only [OpC.at_] at c0 c1 c2 c3 c4 c5 c6 c7 c8
 have hxn:=opB_n hxb
 obtain⟨m1,m2,pA,pn,pc,lA,ln,lc,settled,hgb,hos,hlive,hlast⟩:=h.led.open_
 have d1:decide ((j:Int)<(qn:Int))=true:=decide_eq_true (by omega)
 have d2:decide (j<qn)=true:=decide_eq_true (by omega)
 have z2:(0:Int)<=(j:Nat):=by omega
 have z3:((j:Nat):Int)<((qn:Nat):Int):=by omega
 obtain⟨HQ1,HQ2,HG,HO,HN⟩:=J5 hQ1 hQ2 hgb hos hxn
 clear hQ1 hQ2 h hx hxb hlen hjl hab hss hxn hgb hos hlive hlast
 refine gg hfr fun t=>?_
 go_wp2_with fail
 refine (spotLed_any _ _ _ _ _ _ _ _ _ _).mono ?_
 rintro e w2 ⟨rfl,hb2⟩
 have HB2:=J hb2
 clear hb2
 dsimp only
 go_wp2_with fail
 refine (ledHas_any x.n x.epoch w2 (HG.out.below HB2.out HG.out.lt) rfl (HO.out.below HB2.out) (by have:=HN.out;omega)).mono ?_
 rintro e w3 ⟨rfl,hb3⟩
 have HB3:=J (HB2.out.trans (hb3.mono HB2.out.size))
 clear hb3
 dsimp only
 cases hh:hasL os x.n x.epoch with
 | true=>
  have HH:=J hh
  clear hh
  go_wp2_with fail
  exact HQ1.out HH.out _ _ ff HB3.out
 | false=>
  have HH:=J hh
  clear hh
  go_wp2_with fail
  exact HQ2.out HH.out _ _ ff HB3.out
end
theorem sh9 (Q:Z) (a:Act) (hj:j<1000000) (hfr:Fr 147 a [(0,g),(3,v3),(4,v4),(5,v5),(6,.int .i64 (j:Nat))]) (hQ:∀ a',Fr 147 a' [(0,g),(3,v3),(4,v4),(5,v5),(6,.int .i64 ((j+1:Nat):Nat))]->Q .normal a' W) :
 (part [1,1,1,1,1,1,0,0,0,1,0] (codeOf shipLF)).wp prog Q a W:=by
 exact Y161
end
end
def ShI (w wb:World) (B g:Nat) (Y S:Nat->Prop) (k:Nat) (os:List OpC) (epoch0:Int) (C:Array Value) (qA:O) (qn qc:Nat) (ops:List OpC) (N E:Int) (a:Act) (W:World):Prop:=
 ∃ j:Nat,j<=qn/\Fr 147 a [(0,g),(3,(w:Nat)),(4,(w.heap.size+1:Nat)),(5,(w.heap.size+2:Nat)),(6,.int .i64 (j:Nat))]/\
  ShipAt w wb W B g Y S k os epoch0 C qA qn qc ops N E/\∀ (i:Nat) (x:OpC),ops[i]? = some x->i<j->hasL os x.n x.epoch=true
def muSh (qn:Nat) (a:Act):Nat:=qn-(match at_ a.tmps 6 with|.int _ z=>z.toNat|_=>0)
theorem sh_loop {w wb W:World} {B g:Nat} {Y S:Nat->Prop} {k:Nat} {os:List OpC} {epoch0 kind epoch site:Int} {o:OpC} {hA:O} {hn hc:Nat} {after since:Int} {qA:O} {qn qc:Nat} {tag:Int} {ops:List OpC} {N E:Int} (h:ShipAt w wb W B g Y S k os epoch0 (cmdC kind epoch site o hA hn hc after since qA qn qc tag) qA qn qc ops N E) (hops:∀ x∈ops,opB x=true) (hqn:qn<=1000) (Q:Z) (a:Act) (hfr:Fr 147 a [(0,g),(3,(w:Nat)),(4,(w.heap.size+1:Nat)),(5,(w.heap.size+2:Nat)),(6,.int .i64 (0:Nat))]) (hQ:∀ a' W',Fr 147 a' [(0,g),(3,(w:Nat)),(4,(w.heap.size+1:Nat)),(5,(w.heap.size+2:Nat)),(6,.int .i64 (hadN os ops:Nat))]->ShipAt w wb W' B g Y S k os epoch0 (cmdC kind epoch site o hA hn hc after since qA qn qc tag) qA qn qc ops N E->Q .normal a' W') :
 (part [1,1,1,1,1,1,0] (codeOf shipLF)).wp prog Q a W:=by
 have hlen:=h.hops.len
 have round:∀ (Q:Z) (hexit:∀ a' W',Fr 147 a' [(0,g),(3,(w:Nat)),(4,(w.heap.size+1:Nat)),(5,(w.heap.size+2:Nat)),(6,.int .i64 (hadN os ops:Nat))]->ShipAt w wb W' B g Y S k os epoch0 (cmdC kind epoch site o hA hn hc after since qA qn qc tag) qA qn qc ops N E->Q (.exit 0) a' W')
  (a:Act) (w1:World),ShI w wb B g Y S k os epoch0 (cmdC kind epoch site o hA hn hc after since qA qn qc tag) qA qn qc ops N E a w1->(∀ a' w',ShI w wb B g Y S k os epoch0 (cmdC kind epoch site o hA hn hc after since qA qn qc tag) qA qn qc ops N E a' w'/\muSh qn a'<muSh qn a->Q .normal a' w')->(part [1,1,1,1,1,1,0,0,0] (codeOf shipLF)).wp prog Q a w1:=by
  intro Q hexit a w1 hI hQ
  obtain⟨j,hj,hf,hs,hhad⟩:=hI
  refine Wt ?_
  rcases Nat.lt_or_ge j qn with hj1|hj1
  ·obtain⟨x,hx⟩:∃ x,ops[j]? = some x:=⟨_,List.getElem?_eq_getElem (by omega)⟩
   refine sh8_yes hs hx (hops x (List.mem_of_getElem? hx)) _ a hf (fun hh a2 w2 hf2 hb2=>?_) fun hh a2 w2 hf2 hb2=>?_
   ·show (part [1,1,1,1,1,1,0,0,0,1] (codeOf shipLF)).wp prog Q a2 w2
    refine wp_blk (x:=part [1,1,1,1,1,1,0,0,0,1,0] (codeOf shipLF)) (id:=1) kr ?_
    refine sh9 _ a2 (by omega) hf2 fun a3 hf3=>?_
    refine hQ a3 w2 ⟨⟨j+1,by omega,hf3,hs.below hb2,fun i y hy hi=>?_⟩,?_⟩
    ·rcases Nat.lt_or_ge i j with hij|hij
     ·exact hhad i y hy hij
     ·obtain rfl:i=j:=by omega
      rw [hx] at hy
      injection hy with hy
      subst hy
      exact hh
    ·have q1:at_ a.tmps 6=.int .i64 (j:Nat):=hf.2.2.2.2.2.2.1
     have q2:at_ a3.tmps 6=.int .i64 ((j+1:Nat):Nat):=hf3.2.2.2.2.2.2.1
     unfold muSh
     rw [q1,q2]
     simp only [Int.toNat_natCast]
     omega
   ·have e:hadN os ops=j:=hadN_stop os hhad hx hh
    rw [<-e] at hf2
    exact hexit a2 w2 hf2 (hs.below hb2)
  ·refine sh8_no hs hj1 _ a hf fun a2 hf2=>?_
   have e:hadN os ops=j:=by
    rw [hadN_all os fun i y hy=>hhad i y hy (by have:=(List.getElem?_eq_some_iff.1 hy).1;omega)]
    omega
   rw [<-e] at hf2
   exact hexit a2 w1 hf2 hs
 refine wp_blk (x:=part [1,1,1,1,1,1,0,0] (codeOf shipLF)) (id:=0) kr ?_
 have el:part [1,1,1,1,1,1,0,0] (codeOf shipLF)=Code.loop (part [1,1,1,1,1,1,0,0,0] (codeOf shipLF)):=by kernel_rfl
 rw [el]
 refine wp_loop (ShI w wb B g Y S k os epoch0 (cmdC kind epoch site o hA hn hc after since qA qn qc tag) qA qn qc ops N E) (fun a _=>muSh qn a) ⟨0,Nat.zero_le _,hfr,h,fun i y _ hi=>by omega⟩ fun a2 w2 hI=>?_
 refine round _ ?_ a2 w2 hI ?_
 ·intro a' W' h1 h2
  exact hQ a' W' h1 h2
 ·exact fun a' w' hh=>hh
/- the last one's place -/
section
variable {w wb W:World} {B g:Nat} {Y S:Nat->Prop} {k:Nat} {os:List OpC} {epoch0:Int} {kind epoch site:Int} {o:OpC} {hA:O} {hn hc:Nat} {after since:Int} {qA:O} {qn qc:Nat} {tag:Int} {ops:List OpC} {N E:Int} {v6:Value}
theorem sh10 (h:ShipAt w wb W B g Y S k os epoch0 (cmdC kind epoch site o hA hn hc after since qA qn qc tag) qA qn qc ops N E) (hqn:qn<=1000) (Q:Z) (a:Act) (hfr:Fr 147 a [(0,g),(3,(w:Nat)),(4,(w.heap.size+1:Nat)),(5,(w.heap.size+2:Nat)),(6,v6)]) (hQ:∀ a' W' N' E',Fr 147 a' [(0,g),(3,(w:Nat)),(4,(w.heap.size+1:Nat)),(5,(w.heap.size+2:Nat)),(6,v6)]->ShipAt w wb W' B g Y S k os epoch0 (cmdC kind epoch site o hA hn hc after since qA qn qc tag) qA qn qc ops N' E'->Q .normal a' W') :
 (part [1,1,1,1,1,1,1,0] (codeOf shipLF)).wp prog Q a W:=by
 have k14:=h.h5.c1 14
 obtain⟨HQ,HS⟩:=J2 hQ h
 rcases Nat.eq_zero_or_pos qn with h0|h0
 ·have d1:decide ((0:Int)<(qn:Int))=false:=decide_eq_false (by omega)
  have d2:decide (0<qn)=false:=decide_eq_false (by omega)
  clear hQ h h0
  refine gg hfr fun t=>?_
  go_wp2_with fail
  exact HQ.out _ _ _ _ ff HS.out
 ·obtain⟨m,rfl⟩:∃ m,qn=m+1:=⟨qn-1,by omega⟩
  obtain⟨ad,x,oA,on,oc,rfl,hab,hck,hop,hss⟩:=h.hops.at_ (k:=m) (by omega)
  obtain⟨c0,c1,c2,c3,c4,c5,c6,c7,c8⟩:=hop
  simp only [OpC.at_] at c0 c1 c2 c3 c4 c5 c6 c7 c8
  have d1:decide ((0:Int)<((m+1:Nat):Int))=true:=decide_eq_true (by omega)
  have d2:decide (0<m+1)=true:=decide_eq_true (by omega)
  have z1:IntKind.i64.wrap (((m:Int)+1)-1)=(m:Nat):=by rw [IntKind.wrap_i64];omega
  have z2:(0:Int)<=(m:Nat):=by omega
  have z3:((m:Nat):Int)<((m+1:Nat):Int):=by omega
  clear hQ h h0 hab hck hss
  refine gg hfr fun t=>?_
  go_wp2_with fail
  refine (spotLed_any _ _ _ _ _ _ _ _ _ _).mono ?_
  rintro e w2 ⟨rfl,hb2⟩
  have h2:=HS.out.below hb2
  have h3:=h2.spot x.n x.epoch
  obtain⟨y0,y1⟩:=h2.hs.cs 0 2
  have f0:=h2.hs.frozen
  have H3:=J h3
  clear h2 h3 hb2
  dsimp only
  go_wp2_with fail
  exact HQ.out _ _ _ _ ff H3.out
end
end Go.Proofs.Ytaipgdhdfpemcaa
