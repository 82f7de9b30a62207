/- THE WALKS OF THE LANE, part 38. -/
import Derived.Test.YtaipgdhdfpemcaaF35
namespace Go.Proofs.Ytaipgdhdfpemcaa
set_option linter.all false
open Go.RowKit Go.Proofs.Try
set_option maxRecDepth 100000
set_option maxHeartbeats 4000000
section
variable {w wb W:World} {B g b6:Nat} {Y S:Nat->Prop} {k:Nat} {os:List OpC} {epoch0:Int} {kind epoch site:Int} {o:OpC} {hA:O} {hn hc:Nat} {after since:Int} {qA:O} {qn qc:Nat} {tag:Int} {ops:List OpC} {N E:Int} {j b8:Nat}
section
variable {ad:Addr} {cs:Array Value} {i m pc pn xc xn yc yn:Nat} {pA xA yA:O} {x y:OpC}
section
variable (h:RShipAt w wb W B g b6 Y S k os epoch0 (cmdC kind epoch site o hA hn hc after since qA qn qc tag) qA qn qc ops N E)
include h
theorem r9_yes (hj:j<qn) (Q:Z) (a:Act) (hfr:Fr 220 a [(0,g),(3,(w:Nat)),(4,(w.heap.size+1:Nat)),(6,b6),(7,.int .i64 (j:Nat))]) (hQ:∀ a',Fr 220 a' [(0,g),(3,(w:Nat)),(4,(w.heap.size+1:Nat)),(6,b6),(7,.int .i64 (j:Nat))]->Q .normal a' W) :
 (part [1,1,1,1,1,1,0,1,0,0,0] (codeOf rshipFF)).wp prog Q a W:=by
 have k14:=h.h5.c1 14
 have d1:decide ((j:Int)<(qn:Int))=true:=decide_eq_true (by omega)
 have d2:decide (j<qn)=true:=decide_eq_true hj
 have HQ:=J hQ
 clear hQ h hj
 exact Y13
theorem r9_no (hj:qn<=j) (Q:Z) (a:Act) (hfr:Fr 220 a [(0,g),(3,(w:Nat)),(4,(w.heap.size+1:Nat)),(6,b6),(7,.int .i64 (j:Nat))]) (hQ:∀ a',Fr 220 a' [(0,g),(3,(w:Nat)),(4,(w.heap.size+1:Nat)),(6,b6)]->Q (.exit 0) a' W) :
 (part [1,1,1,1,1,1,0,1,0,0,0] (codeOf rshipFF)).wp prog Q a W:=by
 exact Y220
end
theorem r11 (h:RShipAt w wb W B g b6 Y S k os epoch0 (cmdC kind epoch site o hA hn hc after since (some ad) qn qc tag) (some ad) qn qc ops N E) (hj:j<qn) (hop:OpAt W (ad.add (j*9)) (x.at_ xA xn xc)) (Q:Z) (a:Act) (hfr:Fr 220 a [(0,g),(3,(w:Nat)),(4,(w.heap.size+1:Nat)),(6,b6),(7,.int .i64 (j:Nat))]) (hQ:∀ a',Fr 220 a' [(0,g),(3,(w:Nat)),(4,(w.heap.size+1:Nat)),(6,b6),(7,.int .i64 (j:Nat)),(8,(W:Nat))]->Q .normal a' (W.alloc (.cells (oC x.n x.epoch x.kind x.site x.client x.seq x.name x.size xA xn xc) 45))) :
 (part [1,1,1,1,1,1,0,1,0,0,1,0,0,0] (codeOf rshipFF)).wp prog Q a W:=by
 have k14:=h.h5.c1 14
 obtain⟨c0,c1,c2,c3,c4,c5,c6,c7,c8⟩:=hop
 simp only [OpC.at_] at c0 c1 c2 c3 c4 c5 c6 c7 c8
 have z2:(0:Int)<=(j:Nat):=by omega
 have z3:((j:Nat):Int)<((qn:Nat):Int):=by omega
 have HQ:=J hQ
 clear hQ h hj
 exact Y13
section
variable (hg:Blk W g 62 cs) (hb:Blk W b8 45 (oC x.n x.epoch x.kind x.site x.client x.seq x.name x.size xA xn xc))
include hg hb
theorem r12_high (hg0:cs[0]? = some (.slice pA pn pc)) (hx:(pn:Int)<x.n) (Q:Z) (a:Act) (hfr:Fr 220 a [(0,g),(3,(w:Nat)),(4,(w.heap.size+1:Nat)),(6,b6),(7,.int .i64 (j:Nat)),(8,b8)]) (hQ:∀ a' W',Fr 220 a' [(0,g),(3,(w:Nat)),(4,(w.heap.size+1:Nat)),(6,b6),(7,.int .i64 (j:Nat)),(8,b8)]->Below W W W'->Q .normal a' W') :
 (part [1,1,1,1,1,1,0,1,0,0,1,0,0,1,0] (codeOf rshipFF)).wp prog Q a W:=by
 obtain⟨o0,o1⟩:=hb.cs 0 2
 have g0:=hg.cell 0
 rw [hg0] at g0
 have d1:decide (x.n<=(pn:Int))=false:=decide_eq_false (by omega)
 clear hx
 have HQ:=J hQ
 clear hQ hg hb hg0
 exact Y28
section
variable (hg0:cs[0]? = some (.slice (some ad) pn pc)) (hop:OpAt W (ad.add (i*9)) (y.at_ yA yn yc)) (hi:i<pn) (hi2:i<=1000) (hni:x.n=(i:Int)+1)
include hg0 hop hi hi2 hni
theorem r12_had (he:(y.epoch==x.epoch)=true) (Q:Z) (a:Act) (hfr:Fr 220 a [(0,g),(3,(w:Nat)),(4,(w.heap.size+1:Nat)),(6,b6),(7,.int .i64 (j:Nat)),(8,b8)]) (hQ:∀ a' W',Fr 220 a' [(0,g),(3,(w:Nat)),(4,(w.heap.size+1:Nat)),(6,b6),(7,.int .i64 (j:Nat)),(8,b8)]->Below W W W'->Q (.exit 1) a' W') :
 (part [1,1,1,1,1,1,0,1,0,0,1,0,0,1,0] (codeOf rshipFF)).wp prog Q a W:=by
 exact Y213
theorem r12_not (he:(y.epoch==x.epoch)=false) (Q:Z) (a:Act) (hfr:Fr 220 a [(0,g),(3,(w:Nat)),(4,(w.heap.size+1:Nat)),(6,b6),(7,.int .i64 (j:Nat)),(8,b8)]) (hQ:∀ a' W',Fr 220 a' [(0,g),(3,(w:Nat)),(4,(w.heap.size+1:Nat)),(6,b6),(7,.int .i64 (j:Nat)),(8,b8)]->Below W W W'->Q .normal a' W') :
 (part [1,1,1,1,1,1,0,1,0,0,1,0,0,1,0] (codeOf rshipFF)).wp prog Q a W:=by
 exact Y213
end
end
section
variable (hb:Blk W b8 45 (oC x.n x.epoch x.kind x.site x.client x.seq x.name x.size xA xn xc))
include hb
theorem r13_reign (hk:(x.kind != 3)=false) (Q:Z) (a:Act) (hfr:Fr 220 a [(0,g),(3,(w:Nat)),(4,(w.heap.size+1:Nat)),(6,b6),(7,.int .i64 (j:Nat)),(8,b8)]) (hQ:∀ a' W',Fr 220 a' [(0,g),(3,(w:Nat)),(4,(w.heap.size+1:Nat)),(6,b6),(7,.int .i64 (j:Nat)),(8,b8)]->Below W W W'->Q .normal a' W') :
 (part [1,1,1,1,1,1,0,1,0,0,1,0,0,1,1,0] (codeOf rshipFF)).wp prog Q a W:=by
 have o0:=hb.c1 0
 obtain⟨o2,o3⟩:=hb.cs 2 2
 have HQ:=J hQ
 clear hQ hb
 exact Y28
theorem r13_ok (hy:Blk W g 62 cs) (hg0:cs[0]? = some (.slice (some ad) pn pc)) (hop:OpAt W (ad.add (i*9)) (y.at_ yA yn yc)) (hi:i<pn) (hi2:i<=1000) (hni:x.n=(i:Int)+2) (hk:(x.kind != 3)=true) (hs:(y.site != x.site)=false) (Q:Z) (a:Act) (hfr:Fr 220 a [(0,g),(3,(w:Nat)),(4,(w.heap.size+1:Nat)),(6,b6),(7,.int .i64 (j:Nat)),(8,b8)]) (hQ:∀ a' W',Fr 220 a' [(0,g),(3,(w:Nat)),(4,(w.heap.size+1:Nat)),(6,b6),(7,.int .i64 (j:Nat)),(8,b8)]->Below W W W'->Q .normal a' W') :
 (part [1,1,1,1,1,1,0,1,0,0,1,0,0,1,1,0] (codeOf rshipFF)).wp prog Q a W:=by
 have o0:=hb.c1 0
 obtain⟨o2,o3⟩:=hb.cs 2 2
 have g0:=hy.cell 0
 rw [hg0] at g0
 obtain⟨c0,c1,c2,c3,c4,c5,c6,c7,c8⟩:=hop
 simp only [OpC.at_] at c3
 have z1:IntKind.i64.wrap (x.n-2)=(i:Nat):=by rw [IntKind.wrap_i64];omega
 have z2:(0:Int)<=(i:Nat):=by omega
 have z3:((i:Nat):Int)<((pn:Nat):Int):=by omega
 clear c0 c1 c2 c4 c5 c6 c7 c8 hi hi2 hni hy hg0
 have HQ:=J hQ
 clear hQ hb
 exact Y28
end
theorem r13_gap (h:RShipAt w wb W B g b6 Y S k os epoch0 (cmdC kind epoch site o hA hn hc after since qA qn qc tag) qA qn qc ops N E) (hb:Blk W b8 45 (oC x.n x.epoch x.kind x.site x.client x.seq x.name x.size xA xn xc)) (hy:Blk W g 62 cs) (hg0:cs[0]? = some (.slice (some ad) pn pc)) (hop:OpAt W (ad.add (i*9)) (y.at_ yA yn yc)) (hi:i<pn) (hi2:i<=1000) (hni:x.n=(i:Int)+2) (hk:(x.kind != 3)=true) (hs:(y.site != x.site)=true) (Q:Z) (a:Act) (hfr:Fr 220 a [(0,g),(3,(w:Nat)),(4,(w.heap.size+1:Nat)),(6,b6),(7,.int .i64 (j:Nat)),(8,b8)]) (hQ:∀ a W,bodyPost prog rshipFF (fun e w'=>(∃ u n ep,e=.returned (doneV u n ep))/\RActed B g Y k os epoch0 w w') .ret a W->Q .ret a W) :
 (part [1,1,1,1,1,1,0,1,0,0,1,0,0,1,1,0] (codeOf rshipFF)).wp prog Q a W:=by
 have HS:=J h
 have o0:=hb.c1 0
 obtain⟨o2,o3⟩:=hb.cs 2 2
 have g0:=hy.cell 0
 rw [hg0] at g0
 obtain⟨c0,c1,c2,c3,c4,c5,c6,c7,c8⟩:=hop
 simp only [OpC.at_] at c3
 have z1:IntKind.i64.wrap (x.n-2)=(i:Nat):=by rw [IntKind.wrap_i64];omega
 have z2:(0:Int)<=(i:Nat):=by omega
 have z3:((i:Nat):Int)<((pn:Nat):Int):=by omega
 clear c0 c1 c2 c4 c5 c6 c7 c8 hi hi2 hni hy hg0
 have HQ:=J hQ
 clear hQ h hb
 refine gg hfr fun t=>?_
 go_wp2_with fail
 go_quiet (fail)
 have h82:=HS.out.h8.drewN nq
 obtain⟨Wz,HWW,z0,z1,z2,HKK,HLL,y0,y1,y2,f0⟩:=de h82 121 0 0
 clear h82
 go_wp2
 rw [<-HWW.out]
 refine HQ.out _ _ (dr 121 0 0 ?_)
 exact⟨⟨_,_,_,rfl⟩,(HS.out.below (below_drewN (Below.refl _ _) nq)).end_ HKK.out HLL.out⟩
theorem r15 (hb:Blk W b8 45 (oC x.n x.epoch x.kind x.site x.client x.seq x.name x.size xA xn xc)) (hm:x.n=(m:Int)+1) (hm2:m<=1000) (Q:Z) (a:Act) (hfr:Fr 220 a [(0,g),(3,(w:Nat)),(4,(w.heap.size+1:Nat)),(6,b6),(7,.int .i64 (j:Nat)),(8,b8)]) (hQ:∀ a',Fr 220 a' [(0,g),(3,(w:Nat)),(4,(w.heap.size+1:Nat)),(6,b6),(7,.int .i64 (j:Nat)),(8,b8),(9,.int .i64 (m:Nat))]->Q .normal a' W) :
 (part [1,1,1,1,1,1,0,1,0,0,1,0,0,1,1,1,0,0] (codeOf rshipFF)).wp prog Q a W:=by
 have o0:=hb.c1 0
 have z1:IntKind.i64.wrap (x.n-1)=(m:Nat):=by rw [IntKind.wrap_i64];omega
 have HQ:=J hQ
 clear hQ hb hm hm2
 exact Y13
theorem r10 (hj:j<1000000) (Q:Z) (a:Act) (hfr:Fr 220 a [(0,g),(3,(w:Nat)),(4,(w.heap.size+1:Nat)),(6,b6),(7,.int .i64 (j:Nat))]) (hQ:∀ a',Fr 220 a' [(0,g),(3,(w:Nat)),(4,(w.heap.size+1:Nat)),(6,b6),(7,.int .i64 ((j+1:Nat):Nat))]->Q .normal a' W) :
 (part [1,1,1,1,1,1,0,1,0,0,1,1] (codeOf rshipFF)).wp prog Q a W:=by
 exact Y215
theorem r8 (Q:Z) (a:Act) (hfr:Fr 220 a [(0,g),(3,(w:Nat)),(4,(w.heap.size+1:Nat)),(6,b6)]) (hQ:∀ a',Fr 220 a' [(0,g),(3,(w:Nat)),(4,(w.heap.size+1:Nat)),(6,b6),(7,.int .i64 (0:Nat))]->Q .normal a' W) :
 (part [1,1,1,1,1,1,0,0] (codeOf rshipFF)).wp prog Q a W:=by
 exact Y218
theorem r23 (h:RShipAt w wb W B g b6 Y S k os epoch0 (cmdC kind epoch site o hA hn hc after since qA qn qc tag) qA qn qc ops N E) (hqn:qn<=1000) (Q:Z) (a:Act) (hfr:Fr 220 a [(0,g),(3,(w:Nat)),(4,(w.heap.size+1:Nat)),(6,b6)]) (hQ:∀ a' W' N' E',Fr 220 a' [(0,g),(3,(w:Nat)),(4,(w.heap.size+1:Nat)),(6,b6)]->RShipAt w wb W' B g b6 Y S k os epoch0 (cmdC kind epoch site o hA hn hc after since qA qn qc tag) qA qn qc ops N' E'->Q .normal a' W') :
 (part [1,1,1,1,1,1,1,0] (codeOf rshipFF)).wp prog Q a W:=by
 have k14:=h.h5.c1 14
 obtain⟨HQ,HS⟩:=J2 hQ h
 rcases Nat.eq_zero_or_pos qn with h0|h0
 ·have d1:decide ((0:Int)<(qn:Int))=false:=decide_eq_false (by omega)
  exact Y138
 ·obtain⟨m,rfl⟩:∃ m,qn=m+1:=⟨qn-1,by omega⟩
  obtain⟨ad,x,xA,xn,xc,rfl,hab,hck,hop,hss⟩:=h.hops.at_ (k:=m) (by omega)
  obtain⟨c0,c1,c2,c3,c4,c5,c6,c7,c8⟩:=hop
  simp only [OpC.at_] at c0 c1 c2 c3 c4 c5 c6 c7 c8
  have d1:decide ((0:Int)<((m+1:Nat):Int))=true:=decide_eq_true (by omega)
  have d2:decide (0<m+1)=true:=decide_eq_true (by omega)
  have z1:IntKind.i64.wrap (((m:Int)+1)-1)=(m:Nat):=by rw [IntKind.wrap_i64];omega
  have z2:(0:Int)<=(m:Nat):=by omega
  have z3:((m:Nat):Int)<((m+1:Nat):Int):=by omega
  have hb2:Below W W (W.alloc (.cells (oC x.n x.epoch x.kind x.site x.client x.seq x.name x.size xA xn xc) 45)):=(Below.refl _ _).alloc (Nat.le_refl _) _
  have h2:=h.below hb2
  have h3:=h2.spot x.n x.epoch
  obtain⟨y0,y1⟩:=h2.hs.cs 0 2
  have f0:=h2.hs.frozen
  have H3:=J h3
  clear hQ h h0 hab hck hss h2 h3 hb2
  refine gg hfr fun t=>?_
  go_wp2_with fail
  exact HQ.out _ _ _ _ ff H3.out
end
end
end Go.Proofs.Ytaipgdhdfpemcaa
