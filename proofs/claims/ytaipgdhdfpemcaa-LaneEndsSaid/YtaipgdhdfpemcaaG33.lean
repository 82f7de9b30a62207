/- THE WALKS OF THE LANE, part 33. -/
import Derived.Test.YtaipgdhdfpemcaaG32
namespace Go.Proofs.Ytaipgdhdfpemcaa
set_option linter.all false
open Go.RowKit Go.Proofs.Try
set_option maxRecDepth 100000
set_option maxHeartbeats 4000000
def tailB (os:List OpC) (kind size:Int) (live:Bool):Bool:=!(decide (kind=1)&&live)&&(!(decide (kind=1)&&decide (65536<usedF os+size))&&(!(decide (kind=2)&&!live)&&decide (os.length<64)))
section
variable {live:Bool} {fence:Int} {os:List OpC} {B b5 g k:Nat} {S Y:Nat->Prop} {w w1:World}
section
variable (kind epoch site:Int) (o:OpC) (hA:O) (hn hc:Nat) (after since:Int) (qA:O) (qn qc:Nat) (tag:Int) (h:LedIs w B g Y k os fence) (hB:B<=w) (hz1:w.heap.size+2<=w1) (hb1:Below w w w1) (h5:Blk w1 w 47 (cmdC kind epoch site o hA hn hc after since qA qn qc tag)) (h8:Blk w1 (w.heap.size+1) 50 #[.int .i64 0,.int .i64 0,.int .i64 0]) (hbo:Blk w1 b5 45 (oC o.n o.epoch o.kind o.site o.client o.seq o.name o.size hA hn hc)) (hs:StrIs w1 S hA hn hc o.hs) (hsz:0<=o.size/\o.size<=512) (hop:os.length<64->opB (newOp os o epoch site)=true)
include kind epoch site o hA hn hc after since qA qn qc tag h hB hz1 hb1 h5 h8 hbo hs hsz hop
section
variable (e1:(o.kind==1)=true)
include e1
theorem do_t1 (a:Act) (hfr:Fr 129 a [(0,g),(3,(w:Nat)),(4,(w.heap.size+1:Nat)),(5,b5),(9,true)]) :
 (part [1,1,1,1,1] (codeOf doFF)).wp prog (bodyPost prog doFF fun x w'=>(∃ e n ep,x=.returned (doneV e n ep))/\Acted B g Y k os fence w w') a w1:=by
 have h0:=h
 have hu:=usedF_fits os h.rows.fits
 have hlen:=h.rows.len
 obtain⟨m1,m2,pA,pn,pc,lA,ln,lc,settled,hgb,hos,hlive,hlast⟩:=h.open_
 have hpn:=hos.len
 have hgl:=hgb.lt
 have hg1:=hgb.below hb1 hgl
 obtain⟨H8,HB1,HZ1,H0⟩:=J4 h8 hb1 hz1 h0
 have H1:=J (h0.below hb1)
 obtain⟨HB,HPN,HS,HOP⟩:=J4 hB hpn hs hop
 have z1:IntKind.i64.wrap (usedF os+o.size)=usedF os+o.size:=by rw [IntKind.wrap_i64];omega
 have g1:=hg1.c1 1
 have g5:=hg1.c1 5
 obtain⟨g9,g10⟩:=hg1.cs 9 2
 obtain⟨k1,k2⟩:=h5.cs 1 2
 obtain⟨o0,o1,o2,o3,o4,o5,o6,o7,o8⟩:=hbo.cs 0 9
 clear h0 h hgb hos hpn hlive hlast hz1 hb1 h5 h8 hg1 hB hbo hs hsz hop hu hlen
 refine gg hfr fun t=>?_
 go_wp2_with fail
 refine (failed_any _ _).mono ?_
 rintro x w2 ⟨rfl,hb2⟩
 have hb2':Below w1 w1 w2:=⟨hb2.os,hb2.tape,hb2.output,hb2.size,hb2.block⟩
 have h82:=H8.out.below hb2' H8.out.lt
 obtain⟨W,hW,z0,z1,z2,hk,hl⟩:=done_end h82 rfl (.int .i64 122) (.int .i64 0) (.int .i64 0)
 obtain⟨y0,y1,y2⟩:=h82.cs 0 3
 have f0:=h82.frozen
 obtain⟨HWW,HKK,HLL,HB2⟩:=J4 hW hk hl hb2'
 clear hb2 hb2'
 clear h82 hk hl hW
 go_wp2
 rw [<-HWW.out]
 refine dr 122 0 0 ?_
 exact Y143
theorem do_t2 (e2:decide (65536<usedF os+o.size)=true) (a:Act) (hfr:Fr 129 a [(0,g),(3,(w:Nat)),(4,(w.heap.size+1:Nat)),(5,b5),(9,false)]) :
 (part [1,1,1,1,1] (codeOf doFF)).wp prog (bodyPost prog doFF fun x w'=>(∃ e n ep,x=.returned (doneV e n ep))/\Acted B g Y k os fence w w') a w1:=by
 have h0:=h
 have hu:=usedF_fits os h.rows.fits
 have hlen:=h.rows.len
 obtain⟨m1,m2,pA,pn,pc,lA,ln,lc,settled,hgb,hos,hlive,hlast⟩:=h.open_
 have hpn:=hos.len
 have hgl:=hgb.lt
 have hg1:=hgb.below hb1 hgl
 obtain⟨H8,HB1,HZ1,H0⟩:=J4 h8 hb1 hz1 h0
 have H1:=J (h0.below hb1)
 obtain⟨HB,HPN,HS,HOP⟩:=J4 hB hpn hs hop
 have z1:IntKind.i64.wrap (usedF os+o.size)=usedF os+o.size:=by rw [IntKind.wrap_i64];omega
 have g1:=hg1.c1 1
 have g5:=hg1.c1 5
 obtain⟨g9,g10⟩:=hg1.cs 9 2
 obtain⟨k1,k2⟩:=h5.cs 1 2
 obtain⟨o0,o1,o2,o3,o4,o5,o6,o7,o8⟩:=hbo.cs 0 9
 clear h0 h hgb hos hpn hlive hlast hz1 hb1 h5 h8 hg1 hB hbo hs hsz hop hu hlen
 refine gg hfr fun t=>?_
 go_wp2_with fail
 go_quiet (fail)
 go_wp2_with fail
 refine (failed_any _ _).mono ?_
 rintro x w2 ⟨rfl,hb2⟩
 have hb2':Below w1 w1 w2:=⟨hb2.os,hb2.tape,hb2.output,hb2.size,hb2.block⟩
 have h82:=H8.out.below hb2' H8.out.lt
 obtain⟨W,hW,z0,z1,z2,hk,hl⟩:=done_end h82 rfl (.int .i64 102) (.int .i64 0) (.int .i64 0)
 obtain⟨y0,y1,y2⟩:=h82.cs 0 3
 have f0:=h82.frozen
 obtain⟨HWW,HKK,HLL,HB2⟩:=J4 hW hk hl hb2'
 clear hb2 hb2'
 clear h82 hk hl hW
 go_wp2
 rw [<-HWW.out]
 refine dr 102 0 0 ?_
 exact Y143
section
variable (e2:decide (65536<usedF os+o.size)=false) (e3:(o.kind==2)=false)
include e2 e3
theorem do_t3 (hl:64<=os.length) (a:Act) (hfr:Fr 129 a [(0,g),(3,(w:Nat)),(4,(w.heap.size+1:Nat)),(5,b5),(9,false)]) :
 (part [1,1,1,1,1] (codeOf doFF)).wp prog (bodyPost prog doFF fun x w'=>(∃ e n ep,x=.returned (doneV e n ep))/\Acted B g Y k os fence w w') a w1:=by
 exact Y6
theorem do_t4 (hl:os.length<64) (a:Act) (hfr:Fr 129 a [(0,g),(3,(w:Nat)),(4,(w.heap.size+1:Nat)),(5,b5),(9,false)]) :
 (part [1,1,1,1,1] (codeOf doFF)).wp prog (bodyPost prog doFF fun x w'=>(∃ e n ep,x=.returned (doneV e n ep))/\Acted B g Y k (os++[newOp os o epoch site]) fence w w') a w1:=by
 exact Y4
end
end
section
variable (e1:(o.kind==1)=false)
include e1
section
variable (e3:(o.kind==2)=true)
include e3
theorem do_t5 (a:Act) (hfr:Fr 129 a [(0,g),(3,(w:Nat)),(4,(w.heap.size+1:Nat)),(5,b5),(9,false)]) :
 (part [1,1,1,1,1] (codeOf doFF)).wp prog (bodyPost prog doFF fun x w'=>(∃ e n ep,x=.returned (doneV e n ep))/\Acted B g Y k os fence w w') a w1:=by
 have h0:=h
 have hu:=usedF_fits os h.rows.fits
 have hlen:=h.rows.len
 obtain⟨m1,m2,pA,pn,pc,lA,ln,lc,settled,hgb,hos,hlive,hlast⟩:=h.open_
 have hpn:=hos.len
 have hgl:=hgb.lt
 have hg1:=hgb.below hb1 hgl
 obtain⟨H8,HB1,HZ1,H0⟩:=J4 h8 hb1 hz1 h0
 have H1:=J (h0.below hb1)
 obtain⟨HB,HPN,HS,HOP⟩:=J4 hB hpn hs hop
 have z1:IntKind.i64.wrap (usedF os+o.size)=usedF os+o.size:=by rw [IntKind.wrap_i64];omega
 have g1:=hg1.c1 1
 have g5:=hg1.c1 5
 obtain⟨g9,g10⟩:=hg1.cs 9 2
 obtain⟨k1,k2⟩:=h5.cs 1 2
 obtain⟨o0,o1,o2,o3,o4,o5,o6,o7,o8⟩:=hbo.cs 0 9
 clear h0 h hgb hos hpn hlive hlast hz1 hb1 h5 h8 hg1 hB hbo hs hsz hop hu hlen
 refine gg hfr fun t=>?_
 go_wp2_with fail
 go_quiet (fail)
 go_wp2_with fail
 refine (failed_any _ _).mono ?_
 rintro x w2 ⟨rfl,hb2⟩
 have hb2':Below w1 w1 w2:=⟨hb2.os,hb2.tape,hb2.output,hb2.size,hb2.block⟩
 have h82:=H8.out.below hb2' H8.out.lt
 obtain⟨W,hW,z0,z1,z2,hk,hl⟩:=done_end h82 rfl (.int .i64 123) (.int .i64 0) (.int .i64 0)
 obtain⟨y0,y1,y2⟩:=h82.cs 0 3
 have f0:=h82.frozen
 obtain⟨HWW,HKK,HLL,HB2⟩:=J4 hW hk hl hb2'
 clear hb2 hb2'
 clear h82 hk hl hW
 go_wp2
 rw [<-HWW.out]
 refine dr 123 0 0 ?_
 exact Y143
theorem do_t6 (hl:64<=os.length) (a:Act) (hfr:Fr 129 a [(0,g),(3,(w:Nat)),(4,(w.heap.size+1:Nat)),(5,b5),(9,true)]) :
 (part [1,1,1,1,1] (codeOf doFF)).wp prog (bodyPost prog doFF fun x w'=>(∃ e n ep,x=.returned (doneV e n ep))/\Acted B g Y k os fence w w') a w1:=by
 exact Y6
theorem do_t7 (hl:os.length<64) (a:Act) (hfr:Fr 129 a [(0,g),(3,(w:Nat)),(4,(w.heap.size+1:Nat)),(5,b5),(9,true)]) :
 (part [1,1,1,1,1] (codeOf doFF)).wp prog (bodyPost prog doFF fun x w'=>(∃ e n ep,x=.returned (doneV e n ep))/\Acted B g Y k (os++[newOp os o epoch site]) fence w w') a w1:=by
 exact Y4
end
theorem do_t8 (e3:(o.kind==2)=false) (hl:64<=os.length) (a:Act) (hfr:Fr 129 a [(0,g),(3,(w:Nat)),(4,(w.heap.size+1:Nat)),(5,b5),(9,live)]) :
 (part [1,1,1,1,1] (codeOf doFF)).wp prog (bodyPost prog doFF fun x w'=>(∃ e n ep,x=.returned (doneV e n ep))/\Acted B g Y k os fence w w') a w1:=by
 exact Y6
theorem do_t9 (e3:(o.kind==2)=false) (hl:os.length<64) (a:Act) (hfr:Fr 129 a [(0,g),(3,(w:Nat)),(4,(w.heap.size+1:Nat)),(5,b5),(9,live)]) :
 (part [1,1,1,1,1] (codeOf doFF)).wp prog (bodyPost prog doFF fun x w'=>(∃ e n ep,x=.returned (doneV e n ep))/\Acted B g Y k (os++[newOp os o epoch site]) fence w w') a w1:=by
 exact Y4
end
end
end
section
variable {K:Act->World->Prop} {fence:Int} {os os':List OpC} {B b5 b6 g hc hn k:Nat} {Y:Nat->Prop} {hA:O} {o:OpC} {w w1:World}
section
variable (n' ep' kind' site' client' seq':Int) (name':ByteArray) (size':Int) (A':O) (hn' hc':Nat) (h:LedIs w B g Y k os fence) (hB:B<=w) (hz1:w.heap.size+2<=w1) (hb1:Below w w w1) (h8:Blk w1 (w.heap.size+1) 50 #[.int .i64 0,.int .i64 0,.int .i64 0]) (hbo:Blk w1 b5 45 (oC o.n o.epoch o.kind o.site o.client o.seq o.name o.size hA hn hc)) (hbw:Blk w1 b6 45 (oC n' ep' kind' site' client' seq' name' size' A' hn' hc'))
include n' ep' kind' site' client' seq' name' size' A' hn' hc' h hB hz1 hb1 h8 hbo hbw
theorem do_m0 (a:Act) (hfr:Fr 129 a [(0,g),(3,(w:Nat)),(4,(w.heap.size+1:Nat)),(5,b5),(6,b6),(7,false)]) (hK:∀ a',Fr 129 a' [(0,g),(3,(w:Nat)),(4,(w.heap.size+1:Nat)),(5,b5)]->K a' w1) :
 (part [1,1,1,0,1] (codeOf doFF)).wp prog (Exit.then K (bodyPost prog doFF fun x w'=>(∃ e n ep,x=.returned (doneV e n ep))/\Acted B g Y k os' fence w w')) a w1:=by
 exact Y67
theorem do_m1 (e1:decide (o.seq<=seq')=false) (a:Act) (hfr:Fr 129 a [(0,g),(3,(w:Nat)),(4,(w.heap.size+1:Nat)),(5,b5),(6,b6),(7,true)]) (hK:∀ a',Fr 129 a' [(0,g),(3,(w:Nat)),(4,(w.heap.size+1:Nat)),(5,b5)]->K a' w1) :
 (part [1,1,1,0,1] (codeOf doFF)).wp prog (Exit.then K (bodyPost prog doFF fun x w'=>(∃ e n ep,x=.returned (doneV e n ep))/\Acted B g Y k os' fence w w')) a w1:=by
 exact Y67
section
variable (e1:decide (o.seq<=seq')=true)
include e1
theorem do_m2 (e2:decide (o.seq<seq')=true) (a:Act) (hfr:Fr 129 a [(0,g),(3,(w:Nat)),(4,(w.heap.size+1:Nat)),(5,b5),(6,b6),(7,true)]) (hos:os'=os) :
 (part [1,1,1,0,1] (codeOf doFF)).wp prog (Exit.then K (bodyPost prog doFF fun x w'=>(∃ e n ep,x=.returned (doneV e n ep))/\Acted B g Y k os' fence w w')) a w1:=by
 subst hos
 obtain⟨H8,HB1,HZ1,H0,HB⟩:=J5 h8 hb1 hz1 h hB
 have o0:=hbo.c1 5
 obtain⟨p0,p1,p2,p3,p4,p5,p6,p7,p8⟩:=hbw.cs 0 9
 clear h hB hz1 hb1 h8 hbo hbw
 refine gg hfr fun t=>?_
 go_wp2_with fail
 refine (failed_any _ _).mono ?_
 rintro x w2 ⟨rfl,hb2⟩
 have hb2':Below w1 w1 w2:=⟨hb2.os,hb2.tape,hb2.output,hb2.size,hb2.block⟩
 have h82:=H8.out.below hb2' H8.out.lt
 obtain⟨W,hW,z0,z1,z2,hk,hl⟩:=done_end h82 rfl (.int .i64 124) (.int .i64 0) (.int .i64 0)
 obtain⟨y0,y1,y2⟩:=h82.cs 0 3
 have f0:=h82.frozen
 obtain⟨HWW,HKK,HLL,HB2⟩:=J4 hW hk hl hb2'
 clear hb2 hb2'
 clear h82 hk hl hW
 go_wp2
 rw [<-HWW.out]
 refine dr 124 0 0 ?_
 exact Y143
theorem do_m3 (e2:decide (o.seq<seq')=false) (a:Act) (hfr:Fr 129 a [(0,g),(3,(w:Nat)),(4,(w.heap.size+1:Nat)),(5,b5),(6,b6),(7,true)]) (hos:os'=os) :
 (part [1,1,1,0,1] (codeOf doFF)).wp prog (Exit.then K (bodyPost prog doFF fun x w'=>(∃ e n ep,x=.returned (doneV e n ep))/\Acted B g Y k os' fence w w')) a w1:=by
 subst hos
 obtain⟨H8,HB1,HZ1,H0,HB⟩:=J5 h8 hb1 hz1 h hB
 have o0:=hbo.c1 5
 obtain⟨p0,p1,p2,p3,p4,p5,p6,p7,p8⟩:=hbw.cs 0 9
 clear h hB hz1 hb1 h8 hbo hbw
 refine gg hfr fun t=>?_
 go_wp2_with fail
 refine (spotLed_any _ _ _ _ _ _ _ _ _ _).mono ?_
 rintro x w2 ⟨rfl,hb2⟩
 have hb2':Below w1 w1 w2:=⟨hb2.os,hb2.tape,hb2.output,hb2.size,hb2.block⟩
 have h82:=H8.out.below hb2' H8.out.lt
 have HB2:=J hb2'
 dsimp only
 obtain⟨W,HWW,z0,z1,z2,HKK,HLL,y0,y1,y2,f0⟩:=de h82 0 n' ep'
 clear hb2 hb2'
 clear h82
 go_wp2
 rw [<-HWW.out]
 refine dr 0 n' ep' ?_
 exact Y143
end
end
end
theorem do3 {w1:World} {g b3 b4:Nat} (kind epoch site:Int) (o:OpC) (hA:O) (hn hc:Nat) (after since:Int) (qA:O) (qn qc:Nat) (tag:Int) (Q:Z) (a:Act) (hfr:Fr 129 a [(0,g),(3,b3),(4,b4)]) (h5:Blk w1 b3 47 (cmdC kind epoch site o hA hn hc after since qA qn qc tag)) (hQ:∀ a',Fr 129 a' [(0,g),(3,b3),(4,b4),(5,(w1:Nat))]->Q .normal a' (w1.alloc (.cells (oC o.n o.epoch o.kind o.site o.client o.seq o.name o.size hA hn hc) 45))) :
 (part [1,1,0] (codeOf doFF)).wp prog Q a w1:=by
 obtain⟨k3,k4,k5,k6,k7,k8,k9,k10,k11⟩:=h5.cs 3 9
 have HQ:=J hQ
 clear h5 hQ
 exact Y30
section
variable {w w1:World} {B g b5:Nat} {Y S:Nat->Prop} {k:Nat} {os:List OpC} {fence:Int} (kind epoch site:Int) (o:OpC) (hA:O) (hn hc:Nat) (after since:Int) (qA:O) (qn qc:Nat) (tag:Int)
theorem do_tail (h:LedIs w B g Y k os fence) (hB:B<=w) (hz1:w.heap.size+2<=w1) (hb1:Below w w w1) (h5:Blk w1 w 47 (cmdC kind epoch site o hA hn hc after since qA qn qc tag)) (h8:Blk w1 (w.heap.size+1) 50 #[.int .i64 0,.int .i64 0,.int .i64 0]) (hbo:Blk w1 b5 45 (oC o.n o.epoch o.kind o.site o.client o.seq o.name o.size hA hn hc)) (hs:StrIs w1 S hA hn hc o.hs) (hsz:0<=o.size/\o.size<=512) (hop:os.length<64->opB (newOp os o epoch site)=true) (live:Bool) (a:Act) (hfr:Fr 129 a [(0,g),(3,(w:Nat)),(4,(w.heap.size+1:Nat)),(5,b5),(9,live)]) :
 (part [1,1,1,1,1] (codeOf doFF)).wp prog (bodyPost prog doFF fun x w'=>(∃ e n ep,x=.returned (doneV e n ep))/\Acted B g Y k (if tailB os o.kind o.size live=true then os++[newOp os o epoch site] else os) fence w w') a w1:=by
 by_cases k1:o.kind=1
 ·have e1:(o.kind==1)=true:=beq_iff_eq.2 k1
  have e3:(o.kind==2)=false:=beq_eq_false_iff_ne.2 (by omega)
  cases live with
  | true=>
   have t:tailB os o.kind o.size true=false:=by simp [tailB,k1]
   rw [t,if_neg Bool.false_ne_true]
   exact do_t1 kind epoch site o hA hn hc after since qA qn qc tag h hB hz1 hb1 h5 h8 hbo hs hsz hop e1 a hfr
  | false=>
   by_cases q:65536<usedF os+o.size
   ·have t:tailB os o.kind o.size false=false:=by simp [tailB,k1,q]
    rw [t,if_neg Bool.false_ne_true]
    exact do_t2 kind epoch site o hA hn hc after since qA qn qc tag h hB hz1 hb1 h5 h8 hbo hs hsz hop e1 (decide_eq_true q) a hfr
   ·rcases Nat.lt_or_ge os.length 64 with hl|hl
    ·have t:tailB os o.kind o.size false=true:=by simp [tailB,k1,hl];omega
     rw [t,if_pos rfl]
     exact do_t4 kind epoch site o hA hn hc after since qA qn qc tag h hB hz1 hb1 h5 h8 hbo hs hsz hop e1 (decide_eq_false q) e3 hl a hfr
    ·have t:tailB os o.kind o.size false=false:=by simp [tailB,k1];omega
     rw [t,if_neg Bool.false_ne_true]
     exact do_t3 kind epoch site o hA hn hc after since qA qn qc tag h hB hz1 hb1 h5 h8 hbo hs hsz hop e1 (decide_eq_false q) e3 hl a hfr
 have e1:(o.kind==1)=false:=beq_eq_false_iff_ne.2 k1
 by_cases k2:o.kind=2
 ·have e3:(o.kind==2)=true:=beq_iff_eq.2 k2
  cases live with
  | false=>
   have t:tailB os o.kind o.size false=false:=by simp [tailB,k2]
   rw [t,if_neg Bool.false_ne_true]
   exact do_t5 kind epoch site o hA hn hc after since qA qn qc tag h hB hz1 hb1 h5 h8 hbo hs hsz hop e1 e3 a hfr
  | true=>
   rcases Nat.lt_or_ge os.length 64 with hl|hl
   ·have t:tailB os o.kind o.size true=true:=by simp [tailB,k2,hl]
    rw [t,if_pos rfl]
    exact do_t7 kind epoch site o hA hn hc after since qA qn qc tag h hB hz1 hb1 h5 h8 hbo hs hsz hop e1 e3 hl a hfr
   ·have t:tailB os o.kind o.size true=false:=by simp [tailB,k2];omega
    rw [t,if_neg Bool.false_ne_true]
    exact do_t6 kind epoch site o hA hn hc after since qA qn qc tag h hB hz1 hb1 h5 h8 hbo hs hsz hop e1 e3 hl a hfr
 have e3:(o.kind==2)=false:=beq_eq_false_iff_ne.2 k2
 rcases Nat.lt_or_ge os.length 64 with hl|hl
 ·have t:tailB os o.kind o.size live=true:=by simp [tailB,k1,k2,hl]
  rw [t,if_pos rfl]
  exact do_t9 kind epoch site o hA hn hc after since qA qn qc tag h hB hz1 hb1 h5 h8 hbo hs hsz hop e1 e3 hl a hfr
 ·have t:tailB os o.kind o.size live=false:=by simp [tailB,k1,k2];omega
  rw [t,if_neg Bool.false_ne_true]
  exact do_t8 kind epoch site o hA hn hc after since qA qn qc tag h hB hz1 hb1 h5 h8 hbo hs hsz hop e1 e3 hl a hfr
def turnB (os:List OpC) (client seq:Int):Bool:=match clientC os client with
 | some was=>decide (was.seq<seq)
 | none=>true
theorem do_rest (h:LedIs w B g Y k os fence) (hB:B<=w) (hz1:w.heap.size+2<=w1) (hb1:Below w w w1) (h5:Blk w1 w 47 (cmdC kind epoch site o hA hn hc after since qA qn qc tag)) (h8:Blk w1 (w.heap.size+1) 50 #[.int .i64 0,.int .i64 0,.int .i64 0]) (hs:StrIs w1 S hA hn hc o.hs) (hsz:0<=o.size/\o.size<=512) (hcl:I64 o.client) (hnm:o.name.size<=maxLen) (hop:os.length<64->opB (newOp os o epoch site)=true) (a:Act) (hfr:Fr 129 a [(0,g),(3,(w:Nat)),(4,(w.heap.size+1:Nat))]) :
 (part [1,1] (codeOf doFF)).wp prog (bodyPost prog doFF fun x w'=>(∃ e n ep,x=.returned (doneV e n ep))/\Acted B g Y k (if (turnB os o.client o.seq&&tailB os o.kind o.size (liveC os o.name).isSome)=true then os++[newOp os o epoch site] else os) fence w w') a w1:=by
 refine Wt ?_
 refine do3 kind epoch site o hA hn hc after since qA qn qc tag _ a hfr h5 fun a2 hf2=>?_
 show (part [1,1,1] (codeOf doFF)).wp prog _ a2 _
 obtain⟨w2,hw2⟩:∃ w2,w2=w1.alloc (.cells (oC o.n o.epoch o.kind o.site o.client o.seq o.name o.size hA hn hc) 45):=⟨_,rfl⟩
 rw [<-hw2]
 have hbo:Blk w2 w1 45 (oC o.n o.epoch o.kind o.site o.client o.seq o.name o.size hA hn hc):=by rw [hw2];exact Blk.new _ _ _
 have hb12:Below w1 w1 w2:=by rw [hw2];exact (Below.refl _ _).alloc (Nat.le_refl _) _
 have hbw2:Below w w w2:=hb1.trans (hb12.mono (by omega))
 have s2:=hb12.size
 obtain⟨m1,m2,pA,pn,pc,lA,ln,lc,settled,hgb,hos,hlive,hlast⟩:=(h.below hbw2).open_
 refine Wq fun K hK=>?_
 refine Wt ?_
 refine do4 _ a2 hf2 hgb hbo hlast hcl fun a3 w3 k1 k2 k3 k4 k5 k6 k7 k8 hf3 hbw hb23=>?_
 show (part [1,1,1,0,1] (codeOf doFF)).wp prog (Exit.then K _) a3 w3
 have hb13:Below w1 w1 w3:=hb12.trans (hb23.mono s2)
 have hbw3:Below w w w3:=hb1.trans (hb13.mono (by omega))
 have s3:=hb13.size
 have h8':=h8.below hb13 h8.lt
 have h5':=h5.below hb13 h5.lt
 have hbo':=hbo.below hb23 hbo.lt
 have next:∀ a',Fr 129 a' [(0,g),(3,(w:Nat)),(4,(w.heap.size+1:Nat)),(5,(w1:Nat))]->turnB os o.client o.seq=true->K a' w3:=by
  intro a' hf' ht
  refine hK a' w3 ?_
  rw [ht,Bool.true_and]
  refine Wt ?_
  obtain⟨m1,m2,pA,pn,pc,lA,ln,lc,settled,hgb,hos,hlive,hlast⟩:=(h.below hbw3).open_
  refine do9 _ a' hf' hgb hbo' hlive hnm fun a4 w4 k1 k2 k3 hf4 hbs hb34=>?_
  have hb14:Below w1 w1 w4:=hb13.trans (hb34.mono s3)
  exact do_tail kind epoch site o hA hn hc after since qA qn qc tag h hB (by have:=hb14.size;omega) (hb1.trans (hb14.mono (by omega))) (h5.below hb14 h5.lt) (h8.below hb14 h8.lt) (hbo'.below hb34 hbo'.lt) (hs.below hb14) hsz hop _ a4 ⟨hf4.1,hf4.2.1,hf4.2.2.1,hf4.2.2.2.1,hf4.2.2.2.2.1,hf4.2.2.2.2.2.1,hf4.2.2.2.2.2.2.2.1,trivial⟩
 have hdrop:Fr 129 a3 [(0,g),(3,(w:Nat)),(4,(w.heap.size+1:Nat)),(5,(w1:Nat))]:=⟨hf3.1,hf3.2.1,hf3.2.2.1,hf3.2.2.2.1,hf3.2.2.2.2.1,hf3.2.2.2.2.2.1,trivial⟩
 unfold turnB at next ⊢
 cases hc:clientC os o.client with
 | none=>
  rw [hc] at next hf3
  exact do_m0 _ _ _ _ _ _ _ _ _ _ _ h hB (by omega) hbw3 h8' hbo' hbw a3 hf3 fun a' hf'=>next a' hf' rfl
 | some was=>
  rw [hc] at next hf3 hbw
  by_cases c1:o.seq<=was.seq
  ·have t:decide (was.seq<o.seq)=false:=decide_eq_false (by omega)
   simp only [t,Bool.false_and,if_neg Bool.false_ne_true]
   by_cases c2:o.seq<was.seq
   ·exact do_m2 _ _ _ _ _ _ _ _ _ _ _ h hB (by omega) hbw3 h8' hbo' hbw (decide_eq_true c1) (decide_eq_true c2) a3 hf3 rfl
   ·exact do_m3 _ _ _ _ _ _ _ _ _ _ _ h hB (by omega) hbw3 h8' hbo' hbw (decide_eq_true c1) (decide_eq_false c2) a3 hf3 rfl
  ·exact do_m1 _ _ _ _ _ _ _ _ _ _ _ h hB (by omega) hbw3 h8' hbo' hbw (decide_eq_false c1) a3 hf3 fun a' hf'=>next a' hf' (decide_eq_true (by omega))
end
theorem do_any {w:World} {B g:Nat} {Y:Nat->Prop} {k:Nat} {os:List OpC} {fence:Int} (kind epoch site:Int) (o:OpC) (hA:O) (hn hc:Nat) (after since:Int) (qA:O) (qn qc:Nat) (tag:Int) {S:Nat->Prop} (ops:List OpC) (h:LedIs w B g Y k os fence) (hB:B<=w) (hs:StrIs w S hA hn hc o.hs) (hsz:0<=o.size/\o.size<=512) (hcl:I64 o.client) (hnm:o.name.size<=maxLen) (hop:os.length<64->opB (newOp os o epoch site)=true) :
 Calls prog 43 #[.pointer (some ⟨g,0,none⟩),.agg (cmdC kind epoch site o hA hn hc after since qA qn qc tag)] w fun x w'=>(∃ e n ep,x=.returned (doneV e n ep))/\Acted B g Y k (if doesB os fence ⟨kind,epoch,site,o,after,since,ops,tag⟩=true then os++[newOp os o epoch site] else os) fence w w':=by
 have he:doesB os fence ⟨kind,epoch,site,o,after,since,ops,tag⟩=(decide (epoch=fence)&&(decide (holderC os=(epoch,site))&&(turnB os o.client o.seq&&tailB os o.kind o.size (liveC os o.name).isSome))):=rfl
 rw [he]
 clear he
 have h0:=h
 obtain⟨m1,m2,pA,pn,pc,lA,ln,lc,settled,hgb,hos,hlive,hlast⟩:=h.open_
 have hpn:=hos.len
 have hgl:=hgb.lt
 obtain⟨w1,hw1,hz1,hb1,h5,h8⟩:=two_boxes w (cmdC kind epoch site o hA hn hc after since qA qn qc tag)
 have hg1:=hgb.below hb1 hgl
 have ho1:=hos.below hb1
 obtain⟨HW,H8,HB1,HZ1,H0⟩:=J5 hw1 h8 hb1 hz1 h0
 have H1:=J (h0.below hb1)
 obtain⟨HB,HG,H5,HOS,HPN⟩:=J5 hB hg1 h5 ho1 hpn
 obtain⟨g3,g4⟩:=hg1.cs 3 2
 have g7:=hg1.c1 7
 obtain⟨k1,k2⟩:=h5.cs 1 2
 obtain⟨hE,hS,hhold⟩:∃ hE hS,holderC os=(hE,hS):=⟨_,_,rfl⟩
 rw [hhold] at g3 g4
 simp only at g3 g4
 by_cases c1:epoch=fence
 ·have d1:(epoch != fence)=false:=by simp [c1]
  by_cases c2:hE=epoch/\hS=site
  ·have d2:(hE==epoch)=true:=beq_iff_eq.2 c2.1
   have d3:(hS==site)=true:=beq_iff_eq.2 c2.2
   have t:(decide (epoch=fence)&&(decide (holderC os=(epoch,site))&&(turnB os o.client o.seq&&tailB os o.kind o.size (liveC os o.name).isSome)))=(turnB os o.client o.seq&&tailB os o.kind o.size (liveC os o.name).isSome):=by
    rw [decide_eq_true c1,hhold,c2.1,c2.2,decide_eq_true rfl,Bool.true_and,Bool.true_and]
   rw [t]
   have HR:=J (fun nq a=>do_rest (w:=w) (w1:=w1.drewN nq) kind epoch site o hA hn hc after since qA qn qc tag h0 hB (by show w.heap.size+2<=w1;omega) (below_drewN hb1 nq) h5 h8 (hs.below (below_drewN hb1 nq)) hsz hcl hnm hop a)
   clear t hs hsz hcl hnm hop
   clear h0 h hgb hos hpn hlive hlast hw1 hz1 hb1 h5 h8 hg1 ho1 hB c1 c2 hhold
   go_enter func43,ntmps43
   conv=>arg 2;arg 2;arg 2;change part [1,1] (codeOf doFF)
   go_wp2_with fail
   rw [<-HW.out]
   go_quiet (fail)
   go_wp2_with fail
   exact HR.out _ _ ff
  ·have t : (decide (epoch = fence) && (decide (holderC os = (epoch, site)) && (turnB os o.client o.seq && tailB os o.kind o.size (liveC os o.name).isSome))) = false := by
    rw [hhold,decide_eq_false (p:=(hE,hS)=(epoch,site)) (fun e=>c2 ⟨congrArg Prod.fst e,congrArg Prod.snd e⟩),Bool.false_and,Bool.and_false]
   rw [t,if_neg Bool.false_ne_true]
   clear t hs hsz hcl hnm hop
   by_cases q:hE=epoch
   ·have d2:(hE==epoch)=true:=beq_iff_eq.2 q
    have d3:(hS==site)=false:=beq_eq_false_iff_ne.2 fun e=>c2 ⟨q,e⟩
    exact Y166
   ·have d2:(hE==epoch)=false:=beq_eq_false_iff_ne.2 q
    exact Y166
 ·have d1:(epoch != fence)=true:=by simp [c1]
  rw [decide_eq_false c1,Bool.false_and,if_neg Bool.false_ne_true]
  clear hs hsz hcl hnm hop
  clear h0 h hgb hos hpn hlive hlast hw1 hz1 hb1 h5 h8 hg1 ho1 hB c1 hhold
  exact Y156
end Go.Proofs.Ytaipgdhdfpemcaa
