/- THE WALKS OF LaneEnds, part 9. -/
import Derived.LoopN
import Derived.Test.YtaipgdhdfpemcaaH1
import Derived.Test.YtaipgdhdfpemcaaH4
import Derived.Test.YtaipgdhdfpemcaaH5
namespace Go.Proofs.Ytaipgdhdfpemcaa
set_option linter.all false
open Go.RowKit Go.Proofs.Try
set_option maxRecDepth 100000
set_option maxHeartbeats 4000000
def Townly (w:World) (tb:Nat) (g:Nat->Nat) (k N:Nat):Prop:=∃ Y X t own G,Town w tb g Y X k t/\TwoI own G t/\t.T<=16/\t.sent.length<=N
section
variable {w:World} {tb:Nat} {g:Nat->Nat} {Y:Nat->Nat->Prop} {X:Nat->Prop} {k:Nat} {t:Tn} {s:Nat} {own:Int->Int} {G:List (List OpC)}
theorem Town.moreK (h:Town w tb g Y X k t) {k':Nat} (hk:k<=k'):Town w tb g Y X k' t:=⟨fun s hs=>(h.led s hs).more hk,h.dis,h.out,h.row⟩
theorem Town.epoch (h:Town w tb g Y X k t) (E:Int):Town (w.setCell ⟨tb,2,none⟩ (.int .i64 E)) tb g Y X k {t with T:=E}:=by
 have hk:Kept (fun b=>b≠tb) w (w.setCell ⟨tb,2,none⟩ (.int .i64 E)):=(Kept.refl _ _).set_ ⟨tb,2,none⟩ (.inl fun e=>e rfl) _
 refine⟨fun s hs=>(h.led s hs).kept (hk.mono fun b _ y e=>by have:=((h.led s hs).1 b y).1;omega),h.dis,fun q hq=>⟨(h.out q hq).1,Nat.lt_of_lt_of_le (h.out q hq).2.1 hk.1,(h.out q hq).2.2⟩,?_⟩
 obtain⟨sA,sn,sc,tA,tc,xs,h1,h2,h3,h4,h5⟩:=h.row
 exact⟨sA,sn,sc,tA,tc,xs,h1.set_ 2 _,h2.kept (hk.mono fun b _ y e=>by have:=(h.out b y.1).1;omega),h3,h4.kept (fun q hq=>hk.2 q (fun e=>by have:=(h.out q (h5 q hq)).1;omega) (h4.lt q hq).2),h5⟩
theorem Townly.step (hT:Town w tb g Y X k t) (hs:s<2) {c:CmdC} {wm w':World} (hb:Below w w wm) (ha:Acted (tb+1) (g s) (Y s) (k+80) (stepC (t.L s) (t.f s) c).1 (stepC (t.L s) (t.f s) c).2 wm w') (hI:TwoI own G (t.set s (stepC (t.L s) (t.f s) c))) (hT16:t.T<=16) {N:Nat} (hN:t.sent.length<=N):Townly w' tb g (k+80) N:=
 ⟨_,_,_,own,G,(hT.below hb).acted hs ha (Nat.le_add_right _ _),hI,hT16,hN⟩
theorem nb_step {wm w':World} {B:Nat} {c:List OpC} {f:Int} (hT:Town w tb g Y X k t) (hb:Below w w wm) (ha:Acted (tb+1) (g s) (Y s) B c f wm w'):Below tb w w':=
 (hb.mono (Nat.le_of_lt hT.tl)).trans (ha.2.2.mono (Nat.le_succ _))
theorem reign_ok {E:Int} {s:Nat} (hE:0<=E/\E<=16) (hs:s<2):(⟨4,E,s,opZ,0,0,[],0⟩:CmdC).Ok:=by
 have i4:I64 4:=⟨by decide,by decide⟩
 have i0:I64 0:=⟨by decide,by decide⟩
 exact⟨i4,⟨by show -9223372036854775808<=E;omega,by show E<=9223372036854775807;omega⟩,⟨by show -9223372036854775808<=(s:Int);omega,by show (s:Int)<=9223372036854775807;omega⟩,opz_ok,i0,i0,by show 0*96<=_;omega,fun o ho=>absurd ho (by simp),i0⟩
theorem sent_len {B:Nat} {S:Nat->Prop} {A:O} {n c:Nat} {xs:List CmdX} (h:SentIs w B S A n c xs):xs.length=n:=h.cmds.1.len
theorem letter (hT:Town w tb g Y X k t) (hI:TwoI own G t) {m r:Nat} {c:CmdC} (hm:t.sent[m]? = some (c,r)) (hr:r<2) (hk:k<=900000) (hT16:t.T<=16) {N:Nat} (hN:t.sent.length<=N) (x:CmdX) (hx:x.c=c) (hxi:CmdIs w (fun q=>X q) x.cells.toArray x.c) (hxo:x.c.Ok) (hops:x.c.ops.length<=100000) :
 (Calls prog 14 #[.agg x.cells.toArray] w fun e w'=>∃ v:Value,e=.returned v/\(∃ cs,v=.agg cs/\CmdIs w' (From w.heap.size) cs x.c)/\Below w w w')/\
 ∀ (v:Value) w1,(∃ cs,v=.agg cs/\CmdIs w1 (From w.heap.size) cs x.c)->Below w w w1->∃ cs,v=.agg cs/\Calls prog 13 #[.pointer (some ⟨g r,0,none⟩),.agg cs] w1 fun e w'=>(∃ v,e=.returned v)/\(Townly w' tb g (k+80) N/\Below tb w w'):=by
 refine⟨(own11_any _ x.c w hxi hxo (by omega)).mono ?_,?_⟩
 ·rintro e w' ⟨cs,rfl,h1,h2⟩
  exact⟨_,rfl,⟨cs,rfl,h1⟩,h2⟩
 ·rintro v w1 ⟨cs,rfl,h1⟩ hb
  refine⟨cs,rfl,(apply_any cs x.c ((hT.led r hr).below hb) (by have:=hT.tl;have:=hb.size;omega) h1 hxo (fun q hq hy=>?_) hk hops).mono ?_⟩
  ·have:=((hT.led r hr).1 q hy).2
   have:w.heap.size<=q:=hq
   omega
  ·rintro e w' ⟨⟨e',n',ep',rfl⟩,ha⟩
   refine⟨⟨_,rfl⟩,Townly.step (own:=own) (G:=G) hT hr hb ha ?_ hT16 hN,nb_step hT hb ha⟩
   rw [hx]
   exact hI.comes hm
theorem turn_end (a:Act) (h:a.defers=[]/\a.tmps.size=132) {R:World->Prop} (hR:R w):Exit.inBlock 0 (bodyPost prog turnF fun e w'=>e=.returned (.tuple #[])/\R w') .normal a w:=by
 have h2:bodyPost prog turnF (fun e w'=>e=.returned (.tuple #[])/\R w') .normal a w:=bodyPost_end (results_none rfl _ _ _) h.1 ⟨rfl,hR⟩
 exact h2
theorem turn_any {N:Nat} {k0 k1 k2 k3:Int} {o:OpC} {hA:O} {hn hc:Nat} {S:Nat->Prop} (h:Townly w tb g k N) (hk:k<=800000) (hN:N<=3000) (ho:StrIs w S hA hn hc o.hs) (hS:∀ q,S q->q<tb) (hok:o.Ok) :
 Calls prog 74 #[.pointer (some ⟨tb,0,none⟩),.agg #[.int .i64 k0,.int .i64 k1,.int .i64 k2,.int .i64 k3,.int .i64 o.n,.int .i64 o.epoch,.int .i64 o.kind,.int .i64 o.site,.int .i64 o.client,.int .i64 o.seq,.string o.name,.int .i64 o.size,.slice hA hn hc]] w fun e w'=>e=.returned (.tuple #[])/\(Townly w' tb g (k+80) (N+1)/\Below tb w w'):=by
 obtain⟨R,hR⟩:∃ R:World->Prop,R=fun w'=>Townly w' tb g (k+80) (N+1)/\Below tb w w':=⟨_,rfl⟩
 have rest:∀ (a:Act) (b3:Nat) (W:World),Fr 132 a [(0,.pointer (some ⟨tb,0,none⟩)),(3,.pointer (some ⟨b3,0,none⟩))]->Below w w W->w.heap.size<=b3->
  Blk W b3 121 #[.int .i64 k0,.int .i64 k1,.int .i64 k2,.int .i64 k3,.int .i64 o.n,.int .i64 o.epoch,.int .i64 o.kind,.int .i64 o.site,.int .i64 o.client,.int .i64 o.seq,.string o.name,.int .i64 o.size,.slice hA hn hc]->
  (part [1] (codeOf turnF)).wp prog (bodyPost prog turnF fun e w'=>e=.returned (.tuple #[])/\(Townly w' tb g (k+80) (N+1)/\Below tb w w')) a W:=by
  intro a b3 W hfr hl hge hb
  obtain⟨Y,X,t,own,G,hT0,hI,hT16,hsl⟩:=h
  have htl:=hT0.tl
  have hT:=hT0.below hl
  have hlt:Below tb w W:=hl.mono (Nat.le_of_lt htl)
  have stay:∀ W',Below w w W'->Townly W' tb g (k+80) (N+1)/\Below tb w W':=fun W' hb'=>⟨⟨Y,X,t,own,G,(hT0.below hb').moreK (Nat.le_add_right _ _),hI,hT16,by omega⟩,hb'.mono (Nat.le_of_lt htl)⟩
  obtain⟨s,hs,r1,r2⟩:=rem_place k1 2 (by omega)
  have hft:=hI.ft s hs
  have hT00:=hI.T0
  refine Wt ?_
  refine tn1 _ a hfr hb r1 r2 fun a1 hf1=>?_
  show (part [1,1] (codeOf turnF)).wp prog _ a1 W
  refine Wt ?_
  refine tn2 _ a1 hf1 hb fun a2 hf2=>?_
  show (part [1,1,1] (codeOf turnF)).wp prog _ a2 W
  refine wp_blk (x:=part [1,1,1,0] (codeOf turnF)) (id:=0) kr ?_
  refine Wt ?_
  refine tn7 _ a2 hf2 fun a3 hf3=>?_
  show (part [1,1,1,0,1] (codeOf turnF)).wp prog _ a3 W
  obtain⟨hd,hz,f0,f3,f4,f13,f49,-⟩:=hf3
  obtain⟨sA,sn,sc,tA,tc,xs,b1,b2,b3',b4,b5⟩:=hT.row
  have c2:=b1.c1 2
  have fz2:=b1.frozen 2
  have c3:=b1.c1 3
  refine wp_if (o:=.tmp 49) (x:=part [1,1,1,0,1,0] (codeOf turnF)) (y:=part [1,1,1,0,1,1] (codeOf turnF)) (t:=k0==1) kr (eval_at f49 rfl) (fun hk1=>?_) fun hk1=>?_
  ·
   refine Wt ?_
   refine tn8 _ a3 ⟨hd,hz,f0,f4,trivial⟩ c2 fun a4 hf4=>?_
   show (part [1,1,1,0,1,0,1] (codeOf turnF)).wp prog _ a4 W
   obtain⟨hd,hz,f0,f4,f55,-⟩:=hf4
   refine wp_if (o:=.tmp 55) (x:=part [1,1,1,0,1,0,1,0] (codeOf turnF)) (y:=part [1,1,1,0,1,0,1,1] (codeOf turnF)) (t:=decide (t.T<16)) kr (eval_at f55 rfl) (fun hlt16=>?_) fun _=>?_
   ·have hlt16:=of_decide_eq_true hlt16
    refine Wt ?_
    refine tn9 _ a4 ⟨hd,hz,f0,f4,trivial⟩ c2 fz2 ⟨hT00,hlt16⟩ fun a5 hf5=>?_
    show (part [1,1,1,0,1,0,1,0,1] (codeOf turnF)).wp prog _ a5 (W.setCell ⟨tb,2,none⟩ (.int .i64 (t.T+1)))
    have hTe:=hT.epoch (t.T+1)
    have hle:Below tb w (W.setCell ⟨tb,2,none⟩ (.int .i64 (t.T+1))):=hlt.setCell (p:=⟨tb,2,none⟩) (Nat.le_refl _) _
    have c2':(W.setCell ⟨tb,2,none⟩ (.int .i64 (t.T+1))).cell? ⟨tb,2,none⟩=some (.int .i64 (t.T+1)):=by
     obtain⟨_,_,_,_,_,_,q1,_⟩:=hTe.row
     exact q1.c1 2
    refine tn10 _ a5 hf5 hs (hTe.ptr hs) c2' (fun w'=>Townly w' tb g (k+80) (N+1)/\Below tb w w') ?_ fun a6 W6 hf6 hr6=>turn_end a6 ⟨hf6.1,hf6.2.1⟩ (hr6)
    rintro w0 rfl
    have hbd:Below (W.setCell ⟨tb,2,none⟩ (.int .i64 (t.T+1))).heap.size (W.setCell ⟨tb,2,none⟩ (.int .i64 (t.T+1))) (W.setCell ⟨tb,2,none⟩ (.int .i64 (t.T+1))).drew:=⟨rfl,rfl,rfl,Nat.le_refl _,fun _ _=>rfl⟩
    have hci:CmdIs (W.setCell ⟨tb,2,none⟩ (.int .i64 (t.T+1))).drew (fun _=>False) (cmd0 4 (t.T+1) (s:Nat) 0 0 none 0 0) ⟨4,t.T+1,s,opZ,0,0,[],0⟩:=⟨none,0,0,none,0,0,rfl,⟨Rs.nil_ _ _ _ _,Nat.le_refl _,Nat.zero_le _⟩,OpsIs.nil_ _ _ _ _ (Nat.zero_le _)⟩
    refine (apply_any _ _ ((hTe.led s hs).below hbd) (by have:=hTe.tl;exact this) hci (reign_ok ⟨by omega,by omega⟩ hs) (fun q hq=>hq.elim) (by omega) (by show 0<=100000;omega)).mono ?_
    rintro e w' ⟨⟨e',n',ep',rfl⟩,ha⟩
    refine⟨⟨_,rfl⟩,Townly.step hTe hs hbd ha (hI.reigns hs rfl rfl rfl) (by show t.T+1<=16;omega) (by show t.sent.length<=N+1;omega),hle.trans (nb_step hTe hbd ha)⟩
   ·exact wp_nop kr (turn_end a4 ⟨hd,hz⟩ (stay W hl))
  refine Wt ?_
  refine tn11 _ a3 ⟨hd,hz,f0,f3,f4,f13,trivial⟩ fun a4 hf4=>?_
  show (part [1,1,1,0,1,1,1] (codeOf turnF)).wp prog _ a4 W
  obtain⟨hd,hz,f0,f3,f4,f13,f76,-⟩:=hf4
  refine wp_if (o:=.tmp 76) (x:=part [1,1,1,0,1,1,1,0] (codeOf turnF)) (y:=part [1,1,1,0,1,1,1,1] (codeOf turnF)) (t:=k0==2) kr (eval_at f76 rfl) (fun hk2=>?_) fun hk2=>?_
  ·
   refine Wt ?_
   refine tn12 _ a4 ⟨hd,hz,f0,f3,f4,trivial⟩ hb fun a5 W5 hf5 hb5 hl5=>?_
   show (part [1,1,1,0,1,1,1,0,1] (codeOf turnF)).wp prog _ a5 W5
   have hl5':=hl.trans (hl5.mono hge)
   have hT5:=hT0.below hl5'
   refine tn13 (o:={o with n:=0,epoch:=0,site:=0}) (fence:=t.f s) _ a5 hf5 hs (hT5.ptr hs) hb5 (fun w'=>Townly w' tb g (k+80) (N+1)/\Below tb w w') ?_ ?_ fun a6 W6 hf6 hr6=>turn_end a6 ⟨hf6.1,hf6.2.1⟩ (hr6)
   ·rintro w0 rfl
    exact fence_led ((hT5.led s hs).below ⟨rfl,rfl,rfl,Nat.le_refl _,fun _ _=>rfl⟩)
   ·rintro w0 rfl
    have hbd:Below W5 W5 W5.drew:=⟨rfl,rfl,rfl,Nat.le_refl _,fun _ _=>rfl⟩
    have hbd2:Below w w W5.drew:=⟨hl5'.os,hl5'.tape,hl5'.output,hl5'.size,hl5'.block⟩
    have hci:CmdIs W5.drew S (cmdC 1 (t.f s) (s:Nat) {o with n:=0,epoch:=0,site:=0} hA hn hc 0 0 none 0 0 0) ⟨1,t.f s,s,{o with n:=0,epoch:=0,site:=0},0,0,[],0⟩:=⟨hA,hn,hc,none,0,0,rfl,ho.below hbd2,OpsIs.nil_ _ _ _ _ (Nat.zero_le _)⟩
    have i1:I64 1:=⟨by decide,by decide⟩
    have i0:I64 0:=⟨by decide,by decide⟩
    have hco:(⟨1,t.f s,s,{o with n:=0,epoch:=0,site:=0},0,0,[],0⟩:CmdC).Ok:=⟨i1,⟨by show -9223372036854775808<=t.f s;omega,by show t.f s<=9223372036854775807;omega⟩,⟨by show -9223372036854775808<=(s:Int);omega,by show (s:Int)<=9223372036854775807;omega⟩,⟨i0,i0,hok.kind,i0,hok.client,hok.seq,hok.name,hok.size,hok.hs⟩,i0,i0,by show 0*96<=_;omega,fun o ho=>absurd ho (by simp),i0⟩
    refine (apply_any _ _ ((hT5.led s hs).below hbd) (by have:=hT5.tl;exact this) hci hco (fun q hq hy=>by have:=hS q hq;have:=((hT5.led s hs).1 q hy).1;omega) (by omega) (by show 0<=100000;omega)).mono ?_
    rintro e w' ⟨⟨e',n',ep',rfl⟩,ha⟩
    exact⟨⟨_,rfl⟩,Townly.step hT5 hs hbd ha (hI.does hs rfl rfl rfl) hT16 (by omega),(hl5'.mono (Nat.le_of_lt htl)).trans (nb_step hT5 hbd ha)⟩
  refine Wt ?_
  refine tn14 _ a4 ⟨hd,hz,f0,f3,f4,f13,trivial⟩ fun a5 hf5=>?_
  show (part [1,1,1,0,1,1,1,1,1] (codeOf turnF)).wp prog _ a5 W
  obtain⟨hd,hz,f0,f3,f4,f13,f102,-⟩:=hf5
  refine wp_if (o:=.tmp 102) (x:=part [1,1,1,0,1,1,1,1,1,0] (codeOf turnF)) (y:=part [1,1,1,0,1,1,1,1,1,1] (codeOf turnF)) (t:=k0==3) kr (eval_at f102 rfl) (fun hk3=>?_) fun hk3=>?_
  ·
   refine Wt ?_
   refine tn15 _ a5 ⟨hd,hz,f0,f3,f4,trivial⟩ hb _ (tship_any hT hs hT16 hI (by omega)) fun a6 W6 d hf6 hsh=>?_
   show (part [1,1,1,0,1,1,1,1,1,0,1] (codeOf turnF)).wp prog _ a6 W6
   obtain⟨hd,hz,f0,f4,f110,-⟩:=hf6
   refine wp_if (o:=.tmp 110) (x:=part [1,1,1,0,1,1,1,1,1,0,1,0] (codeOf turnF)) (y:=part [1,1,1,0,1,1,1,1,1,0,1,1] (codeOf turnF)) (t:=d) kr (eval_at f110 rfl) (fun hdt=>?_) fun hdf=>?_
   ·subst hdt
    rcases hsh with ⟨h0,_⟩|⟨_,h1,h2,c,m,n,q1,q2,q3,q4,q5,q6,hT6,hl6⟩
    ·cases h0
    have hI6:=hI.sends hs h1 (by have:=hft.1;omega) q1 q2 q3 q4 q5 q6
    obtain⟨sA,sn,sc,tA,tc,xs,b1,b2,b3',b4,b5⟩:=hT6.row
    have hxl:=sent_len b2
    have hxs:xs.length=t.sent.length+1:=by
     have:=congrArg List.length b3'
     simpa using this
    have hsn:sn=t.sent.length+1:=by omega
    subst hsn
    obtain⟨ad,x,rfl,hx,hcell,hab,h16,hci,hxo⟩:=b2.cmds.1.at_ (k:=t.sent.length) (by omega)
    have hxc:x.c=c:=by
     have e:(xs.map (·.c))[t.sent.length]? = ((t.sent++[(c,1-s)]).map (·.1))[t.sent.length]?:=by rw [b3']
     rw [List.getElem?_map,hx,List.map_append,List.getElem?_append_right (by simp)] at e
     simpa using e
    have hlet:({t with sent:=t.sent++[(c,1-s)]}:Tn).sent[t.sent.length]? = some (c,1-s):=by
     show (t.sent++[(c,1-s)])[t.sent.length]? = _
     rw [List.getElem?_append_right (by omega)]
     simp
    have hlen6:({t with sent:=t.sent++[(c,1-s)]}:Tn).sent.length<=N+1:=by
     show (t.sent++[(c,1-s)]).length<=_
     simp
     omega
    have hops:x.c.ops.length<=100000:=by
     have h5:=hT0.opLen hs
     rw [hxc,q6,List.length_take,List.length_drop]
     omega
    have hbd:Below W6 W6 W6.drew:=⟨rfl,rfl,rfl,Nat.le_refl _,fun _ _=>rfl⟩
    have hbt:Below tb w W6.drew:=(hlt.trans hl6).trans (hbd.mono (Nat.le_of_lt hT6.tl))
    have LT:=letter (hT6.below hbd) hI6 hlet (by omega) (by omega) hT16 hlen6 x hxc ((hci.below hbd).mono fun _ _ q=>q.1) hxo hops
    refine tn16 (x:=x) (u:=1-s) (m:=t.sent.length) _ a6 ⟨hd,hz,f0,f4,trivial⟩ hs (by omega) hT6.tl (by omega) (hT6.ptr (by omega)) (b1.c1 3) hcell h16 (fun v w1=>∃ cs,v=.agg cs/\CmdIs w1 (From W6.drew.heap.size) cs x.c) (fun w'=>Townly w' tb g (k+80) (N+1)/\Below tb W6.drew w') (fun w0 e0=>by rw [e0];exact LT.1) (fun w0 e0=>by rw [e0];exact LT.2) fun a7 W7 hf7 hr7=>turn_end a7 ⟨hf7.1,hf7.2.1⟩ ⟨hr7.1,hbt.trans hr7.2⟩
   ·subst hdf
    rcases hsh with ⟨_,hl6⟩|⟨h0,_⟩
    ·exact wp_nop kr (turn_end a6 ⟨hd,hz⟩ (stay W6 (hl.trans (hl6.mono hl.size))))
    ·cases h0
  refine Wt ?_
  refine tn3 _ a5 ⟨hd,hz,f0,f3,f4,trivial⟩ c3 fun a6 hf6=>?_
  show (part [1,1,1,0,1,1,1,1,1,1,1] (codeOf turnF)).wp prog _ a6 W
  refine Wt ?_
  refine tn4 _ a6 hf6 fun a7 hf7=>?_
  show (part [1,1,1,0,1,1,1,1,1,1,1,1] (codeOf turnF)).wp prog _ a7 W
  obtain⟨hd,hz,f0,f3,f5,f20,-⟩:=hf7
  refine wp_if (o:=.tmp 20) (x:=part [1,1,1,0,1,1,1,1,1,1,1,1,0] (codeOf turnF)) (y:=part [1,1,1,0,1,1,1,1,1,1,1,1,1] (codeOf turnF)) (t:=decide (0<sn)) kr (eval_at f20 rfl) (fun hn0=>?_) fun _=>?_
  ·have hn0:=of_decide_eq_true hn0
   have hxl:=sent_len b2
   have hxs:xs.length=t.sent.length:=by
    have:=congrArg List.length b3'
    simpa using this
   obtain⟨m,hm,m1,m2⟩:=rem_place k2 sn ⟨hn0,by omega⟩
   refine Wt ?_
   refine tn5 _ a7 ⟨hd,hz,f0,f3,f5,trivial⟩ hb ⟨hn0,by omega⟩ m1 m2 fun a8 hf8=>?_
   show (part [1,1,1,0,1,1,1,1,1,1,1,1,0,1] (codeOf turnF)).wp prog _ a8 W
   obtain⟨hd,hz,f0,f3,f6,-⟩:=hf8
   obtain⟨ad,x,rfl,hx,hcell,hab,h16,hci,hxo⟩:=b2.cmds.1.at_ hm
   obtain⟨c,r,hcr⟩:∃ c r,t.sent[m]? = some (c,r):=⟨_,_,List.getElem?_eq_getElem (by omega)⟩
   obtain⟨g0,hg0⟩:∃ g0,G[m]? = some g0:=⟨_,List.getElem?_eq_getElem (by rw [hI.len];omega)⟩
   have hr:=(hI.snt m c r g0 hcr hg0).2.1
   have hxc:x.c=c:=by
    have e:(xs.map (·.c))[m]? = (t.sent.map (·.1))[m]?:=by rw [b3']
    rw [List.getElem?_map,hx,List.getElem?_map,hcr] at e
    simpa using e
   obtain⟨A',c',e1,e2,e3,e4⟩:=own_slice b4
   injection e1 with e1 _ e5
   subst e1 e5
   obtain⟨at',u,rfl,h5,h6,h7⟩:=e4.at_ hm
   rw [List.getElem?_map,List.getElem?_map,hcr] at h6
   have hu:u=.int .i64 (r:Nat):=by simpa using h6.symm
   rw [hu] at h7
   have hops:x.c.ops.length<=100000:=by
    obtain⟨hrow,_,k',_,_,_,hops'⟩:=(hI.snt m c r g0 hcr hg0).1
    have:=hrow.rows.len
    rw [hxc,hops',List.length_drop]
    omega
   have hbd:Below W W W.drew:=⟨rfl,rfl,rfl,Nat.le_refl _,fun _ _=>rfl⟩
   have hbt:Below tb w W.drew:=hlt.trans (hbd.mono (Nat.le_of_lt hT.tl))
   have LT:=letter (hT.below hbd) hI hcr hr (by omega) hT16 (show t.sent.length<=N+1 by omega) x hxc ((hci.below hbd).mono fun _ _ q=>q.1) hxo hops
   refine tn6 (x:=x) (u:=r) (m:=m) _ a8 ⟨hd,hz,f0,f6,trivial⟩ hT.tl hr hm hm (by omega) (hT.ptr hr) (b1.c1 3) (b1.c1 4) hcell h16 h7 h5 (fun v w1=>∃ cs,v=.agg cs/\CmdIs w1 (From W.drew.heap.size) cs x.c) (fun w'=>Townly w' tb g (k+80) (N+1)/\Below tb W.drew w') (fun w0 e0=>by rw [e0];exact LT.1) (fun w0 e0=>by rw [e0];exact LT.2) fun a9 W9 hf9 hr9=>turn_end a9 ⟨hf9.1,hf9.2.1⟩ ⟨hr9.1,hbt.trans hr9.2⟩
  ·exact wp_nop kr (turn_end a7 ⟨hd,hz⟩ (stay W hl))
 have HR:=J rest
 have HB:=J ((Below.refl w.heap.size w).alloc (Nat.le_refl _) (.cells #[.int .i64 k0,.int .i64 k1,.int .i64 k2,.int .i64 k3,.int .i64 o.n,.int .i64 o.epoch,.int .i64 o.kind,.int .i64 o.site,.int .i64 o.client,.int .i64 o.seq,.string o.name,.int .i64 o.size,.slice hA hn hc] 121))
 clear rest h hk hN ho hS hok hR R
 go_enter func74,ntmps74
 conv=>arg 2;arg 2;change part [1] (codeOf turnF)
 go_wp2_with fail
 exact HR.out _ _ _ ff HB.out (Nat.le_refl _) (Blk.new _ _ _)
end
@[reducible] noncomputable def twoF:Func:=Try.f23
def NewLed (W:World) (B lo g:Nat):Prop:=LedIs W B g (fun q=>lo<=q/\q<W) 0 [] 0
theorem newLed_led {w W:World} {B g m1 m2:Nat} (h:FoldAt W W w.heap.size g m1 m2 [] none 0 0 none 0 0 0 0 65536 64) (hB:B<=w):NewLed W B w.heap.size g:=by
 have hg:=h.blk.lt
 have h1:=h.live.lt
 have h2:=h.last.lt
 have b0:=h.bg
 have b1:=h.b1
 have b2:=h.b2
 have h':FoldAt W W B g m1 m2 [] none 0 0 none 0 0 0 0 65536 64:=⟨h.blk,h.live,h.last,Below.refl _ _,fun _ _ _ _ _=>rfl,h.n1,h.n2,h.n3,by omega,by omega,by omega⟩
 refine⟨fun q hq=>⟨by omega,hq.2⟩,Rows.nil_,fun _=>False,m1,m2,none,0,0,none,0,0,0,⟨h',RowIs.nil_ _ _ _,⟨[],World.ownsRow_nil _ _ _ _⟩,id,id,id,fun q hq=>by simp [ob] at hq,fun q hq=>hq.elim⟩,?_,Nat.le_refl _⟩
 rintro q (hq|hq|hq|hq|hq)
 ·exact hq.elim
 ·subst hq;exact⟨by omega,hg⟩
 ·subst hq;exact⟨by omega,h1⟩
 ·subst hq;exact⟨by omega,h2⟩
 ·simp [ob] at hq
def nwV (tb i:Nat):Nat->Option Value
 | 0|6|7=>some (.pointer (some ⟨tb,0,none⟩))
 | 1=>some (.int .i64 (i:Nat))
 | 8=>some (.pointer (some ⟨tb,i,none⟩))
 | _=>none
structure Nw (w0:World) (tb i:Nat) (L:Nat->Bool) (U:Nat->Value) (W:World):Prop where
 st:∀ j v,nwV tb i j=some v->L j=true->U j=v
 o3:L 3=true->L 2=true
 o4:L 4=true->L 2=true
 o9:L 9=true->L 2=true/\L 4=true
 n2:L 2=false->W=w0
 y2:L 2=true->∃ g W1,U 2=.tuple #[.pointer (some ⟨g,0,none⟩),.int .i64 0]/\NewLed W1 (tb+1) w0.heap.size g/\Below w0 w0 W1/\(L 3=true->U 3=.tuple #[.pointer (some ⟨g,0,none⟩),.int .i64 0])/\(L 4=true->U 4=.pointer (some ⟨g,0,none⟩))/\W=if L 9=true then W1.setCell ⟨tb,i,none⟩ (.pointer (some ⟨g,0,none⟩)) else W1
section
variable {w0 W:World} {tb i:Nat} {L:Nat->Bool} {U:Nat->Value}
theorem Nw.upd (h:Nw w0 tb i L U W) (j:Nat) (v:Value) (hv:nwV tb i j=some v\/j=5):Nw w0 tb i (setL L j) (updU U j v) W:=by
 have h2:(2:Nat)≠j:=by rintro rfl;rcases hv with hv|hv<;>cases hv
 have h3:(3:Nat)≠j:=by rintro rfl;rcases hv with hv|hv<;>cases hv
 have h4:(4:Nat)≠j:=by rintro rfl;rcases hv with hv|hv<;>cases hv
 have h9:(9:Nat)≠j:=by rintro rfl;rcases hv with hv|hv<;>cases hv
 refine⟨fun q u hq hL=>?_,?_,?_,?_,?_,?_⟩
 ·by_cases e:q=j
  ·subst e
   rw [uU_eq]
   rcases hv with hv|hv
   ·rw [hv] at hq
    injection hq
   ·subst hv;cases hq
  ·rw [uU_ne e]
   rw [sL_ne e] at hL
   exact h.st q u hq hL
 ·rw [sL_ne h2,sL_ne h3];exact h.o3
 ·rw [sL_ne h2,sL_ne h4];exact h.o4
 ·rw [sL_ne h2,sL_ne h9,sL_ne h4];exact h.o9
 ·rw [sL_ne h2];exact h.n2
 ·rw [sL_ne h2,sL_ne h3,sL_ne h4,sL_ne h9,uU_ne h2,uU_ne h3,uU_ne h4];exact h.y2
theorem Nw.st' (h:Nw w0 tb i L U W) (j:Nat) (v:Value) (hj:nwV tb i j=none):∀ q u,nwV tb i q=some u->setL L j q=true->updU U j v q=u:=fun q u hq hL=>by
 by_cases e:q=j
 ·subst e;rw [hj] at hq;cases hq
 ·rw [uU_ne e]
  rw [sL_ne e] at hL
  exact h.st q u hq hL
theorem Nw.call (h:Nw w0 tb i L U W) (hL:L 2=false) {g:Nat} {W1:World} (h1:NewLed W1 (tb+1) w0.heap.size g) (h2:Below w0 w0 W1):Nw w0 tb i (setL L 2) (updU U 2 (.tuple #[.pointer (some ⟨g,0,none⟩),.int .i64 0])) W1:=by
 have n3:L 3=false:=by cases e:L 3 with|false=>rfl|true=>rw [h.o3 e] at hL;cases hL
 have n4:L 4=false:=by cases e:L 4 with|false=>rfl|true=>rw [h.o4 e] at hL;cases hL
 have n9:L 9=false:=by cases e:L 9 with|false=>rfl|true=>rw [(h.o9 e).1] at hL;cases hL
 refine⟨h.st' 2 _ rfl,fun _=>rfl,fun _=>rfl,fun e=>⟨rfl,(h.o9 e).2⟩,fun e=>(by cases e),fun _=>⟨g,W1,uU_eq _ _,h1,h2,fun e=>?_,fun e=>?_,?_⟩⟩
 ·rw [show setL L 2 3=L 3 from rfl,n3] at e;cases e
 ·rw [show setL L 2 4=L 4 from rfl,n4] at e;cases e
 ·rw [show setL L 2 9=L 9 from rfl,n9];rfl
theorem Nw.s3 (h:Nw w0 tb i L U W) (hL:L 2=true):Nw w0 tb i (setL L 3) (updU U 3 (U 2)) W:=by
 obtain⟨g,W1,h1,h2,h3,h4,h5,h6⟩:=h.y2 hL
 exact⟨h.st' 3 _ rfl,fun _=>hL,h.o4,h.o9,h.n2,fun _=>⟨g,W1,h1,h2,h3,fun _=>(uU_eq _ _).trans h1,h5,h6⟩⟩
theorem Nw.s4 (h:Nw w0 tb i L U W) (hL:L 3=true) (h9:L 4=false):∃ g,U 3=.tuple #[.pointer (some ⟨g,0,none⟩),.int .i64 0]/\Nw w0 tb i (setL L 4) (updU U 4 (.pointer (some ⟨g,0,none⟩))) W:=by
 obtain⟨g,W1,h1,h2,h3,h4,h5,h6⟩:=h.y2 (h.o3 hL)
 exact⟨g,h4 hL,h.st' 4 _ rfl,h.o3,fun _=>h.o3 hL,fun e=>⟨(h.o9 e).1,rfl⟩,h.n2,fun _=>⟨g,W1,h1,h2,h3,h4,fun _=>uU_eq _ _,h6⟩⟩
theorem Nw.s9 (h:Nw w0 tb i L U W) (hL:L 4=true) (h9:L 9=false):∃ g,U 4=.pointer (some ⟨g,0,none⟩)/\Below w0 w0 W/\∀ v,Nw w0 tb i (setL L 9) (updU U 9 v) (W.setCell ⟨tb,i,none⟩ (.pointer (some ⟨g,0,none⟩))):=by
 obtain⟨g,W1,h1,h2,h3,h4,h5,h6⟩:=h.y2 (h.o4 hL)
 rw [h9,if_neg (by decide)] at h6
 subst h6
 exact⟨g,h5 hL,h3,fun v=>⟨h.st' 9 _ rfl,h.o3,h.o4,fun _=>⟨h.o4 hL,hL⟩,fun e=>(by rw [show setL L 9 2=L 2 from rfl,h.o4 hL] at e;cases e),fun _=>⟨g,W,h1,h2,h3,h4,h5,rfl⟩⟩⟩
end
section
variable {w:World} {tb i:Nat} {v0:Value}
theorem tw7 {cs:Array Value} (Q:Z) (a:Act) (hfr:Fr 43 a [(0,v0),(3,.pointer (some ⟨tb,0,none⟩)),(4,.int .i64 (i:Nat)),(12,.int .i64 (i:Nat))]) (hi:i<2) (hb:Blk w tb 119 cs) (hcs:cs.size=5)
 (hQ:∀ a' g W1,Fr 43 a' [(0,v0),(3,.pointer (some ⟨tb,0,none⟩)),(12,.int .i64 (i:Nat))]->NewLed W1 (tb+1) w.heap.size g->Below w w W1->Q .normal a' (W1.setCell ⟨tb,i,none⟩ (.pointer (some ⟨g,0,none⟩)))) :
 (part [1,1,1,0,1,0,0,1,1,0,0,1] (codeOf twoF)).wp prog Q a w:=by
 obtain⟨w0,hw0⟩:∃ w0,w0=w.drew:=⟨_,rfl⟩
 have hb0:Blk w0 tb 119 cs:=by rw [hw0];exact hb
 have hQ0:∀ a' g W1,Fr 43 a' [(0,v0),(3,.pointer (some ⟨tb,0,none⟩)),(12,.int .i64 (i:Nat))]->NewLed W1 (tb+1) w0.heap.size g->Below w0 w0 W1->Q .normal a' (W1.setCell ⟨tb,i,none⟩ (.pointer (some ⟨g,0,none⟩))):=by
  rw [hw0]
  exact fun a' g W1 h1 h2 h3=>hQ a' g W1 h1 h2 ⟨h3.os,h3.tape,h3.output,h3.size,h3.block⟩
 obtain⟨HB,HQ,HC⟩:=J3 hb0 hQ0 hcs
 clear hb hQ hb0 hQ0 hcs
 refine gg hfr fun t=>?_
 obtain⟨w1,hw1⟩:∃ w1,w1=w:=⟨_,rfl⟩
 rw [<-hw1]
 rw [<-hw1] at hw0
 clear hw1
 have HW0:=J hw0
 clear hw0
 refine wp_region_inv kr (fun L U W'=>Nw w0 tb i L U W') kr ?hI ?hstep ?hend
 case hI=>
  intro U
  have key:∀ W',W'=w0->Nw w0 tb i (fun _=>false) U W':=fun W' hW'=>⟨fun _ _ _ e=>(by cases e),fun e=>(by cases e),fun e=>(by cases e),fun e=>(by cases e),fun _=>hW',fun e=>(by cases e)⟩
  exact key _ HW0.out.symm
 case hstep=>
  intro j o F L U W ho hZ hL hat hoff hp
  match j with
  | 0=>
   cases ho
   refine on_ (wanted_none rfl) ?_
   have t3:F.tmps[3]?.getD undef=.pointer (some ⟨tb,0,none⟩):=act_tmp ((hoff 3 kd).trans rfl)
   exact vl ⟨_,rfl,hZ.upd 0 _ (.inl rfl)⟩
  | 1=>
   cases ho
   refine on_ (wanted_none rfl) ?_
   have t4:F.tmps[4]?.getD undef=.int .i64 (i:Nat):=act_tmp ((hoff 4 kd).trans rfl)
   exact vl ⟨_,rfl,hZ.upd 1 _ (.inl rfl)⟩
  | 2=>
   cases ho
   refine on_ (wanted_none rfl) ?_
   obtain rfl:=hZ.n2 hL
   refine wp_enter' 8 #[.int .i64 65536,.int .i64 64] (by unfold execOp;go_simp) ?_
   refine (newLed_any W).mono ?_
   rintro e W' ⟨g,m1,m2,rfl,hf,hb⟩
   exact⟨_,rfl,_,rfl,hZ.call hL (newLed_led hf HB.out.lt) hb⟩
  | 3=>
   cases ho
   refine on_ (wanted_none rfl) ?_
   have l2:=hp ⟨2,.data⟩ (by simp) rfl
   have e18:F.eval (.tmp 18)=U 2:=hat 2 18 kd rfl
   exact wp_move' (.tmp 18) rfl ⟨_,rfl,e18▸hZ.s3 l2⟩
  | 4=>
   cases ho
   refine on_ (wanted_none rfl) ?_
   have l3:=hp ⟨3,.data⟩ (by simp) rfl
   obtain⟨g,u3,hn⟩:=hZ.s4 l3 hL
   have t15:=act_tmp ((hat 3 15 kd rfl).trans u3)
   exact vl ⟨_,rfl,hn⟩
  | 5=>
   cases ho
   refine on_ (wanted_none rfl) ?_
   have l3:=hp ⟨3,.data⟩ (by simp) rfl
   obtain⟨g,W1,h1,h2,h3,h4,h5,h6⟩:=hZ.y2 (hZ.o3 l3)
   have t15:=act_tmp ((hat 3 15 kd rfl).trans (h4 l3))
   exact vl ⟨_,rfl,hZ.upd 5 (.int .i64 0) (.inr rfl)⟩
  | 6=>
   cases ho
   refine on_ (wanted_none rfl) ?_
   have l0:=hp ⟨0,.data⟩ (by simp) rfl
   have t16:=act_tmp ((hat 0 16 kd rfl).trans (hZ.st 0 _ rfl l0))
   exact vl ⟨_,rfl,hZ.upd 6 _ (.inl rfl)⟩
  | 7=>
   cases ho
   refine on_ (wanted_none rfl) ?_
   have l6:=hp ⟨6,.data⟩ (by simp) rfl
   have t21:=act_tmp ((hat 6 21 kd rfl).trans (hZ.st 6 _ rfl l6))
   exact vl ⟨_,rfl,hZ.upd 7 _ (.inl rfl)⟩
  | 8=>
   cases ho
   refine on_ (wanted_none rfl) ?_
   have l7:=hp ⟨7,.data⟩ (by simp) rfl
   have t22:=act_tmp ((hat 7 22 kd rfl).trans (hZ.st 7 _ rfl l7))
   have l1:=hp ⟨1,.data⟩ (by simp) rfl
   have t17:=act_tmp ((hat 1 17 kd rfl).trans (hZ.st 1 _ rfl l1))
   exact vl ⟨_,rfl,hZ.upd 8 _ (.inl rfl)⟩ (h:=by unfold execOp;go_simp;all_goals first|rfl|omega|exact IntWalk.i64_in _ (by omega))
  | 9=>
   cases ho
   refine on_ (wanted_none rfl) ?_
   have l8:=hp ⟨8,.data⟩ (by simp) rfl
   have t23:=act_tmp ((hat 8 23 kd rfl).trans (hZ.st 8 _ rfl l8))
   have l4:=hp ⟨4,.data⟩ (by simp) rfl
   obtain⟨g,u4,hbl,hn⟩:=hZ.s9 l4 hL
   have t19:=act_tmp ((hat 4 19 kd rfl).trans u4)
   have hbW:=HB.out.below hbl HB.out.lt
   have f0:=hbW.frozen i
   have d0:=hbW.cell i
   rw [Array.getElem?_eq_getElem (by have:=HC.out;omega)] at d0
   exact wp_skip' (W.setCell ⟨tb,i,none⟩ (.pointer (some ⟨g,0,none⟩))) (by unfold execOp;go_simp) ⟨_,rfl,hn _⟩
  | j+10=>exact absurd ho (by simp)
 case hend=>
  intro U L W hZ hall
  obtain⟨g,W1,h1,h2,h3,h4,h5,h6⟩:=hZ.y2 (hall 2 (by decide))
  rw [hall 9 (by decide),if_pos rfl] at h6
  subst h6
  clear hZ hall h1 h4 h5
  simp [putU,dstAt,Act.put]
  exact HQ.out _ g W1 ff h2 h3
end
def TwoR (W:World) (e:Ending) (w':World):Prop:=Below W W w'/\(e=.returned (.pointer none)\/∃ tb g,e=.returned (.pointer (some ⟨tb,0,none⟩))/\W.heap.size<=tb/\Townly w' tb g 16000 200)
section
variable {W w:World} {tb i n c k:Nat} {A:O}
theorem tw1 (Q:Z) (a:Act) (hfr:Fr 43 a [(0,.slice A n c)]) (hQ:∀ a',Fr 43 a' [(0,.slice A n c),(9,.bool (decide ((200:Int)<(n:Nat))))]->Q .normal a' w):(part [1,0,0] (codeOf twoF)).wp prog Q a w:=by
 exact EY2
theorem tw2 (Q:Z) (a:Act) (h:a.defers=[]/\a.tmps.size=43) (hl:Below W W w) (hQ:∀ a' w',bodyPost prog twoF (TwoR W) .ret a' w'->Q .ret a' w'):(part [1,0,1,0] (codeOf twoF)).wp prog Q a w:=by
 exact EY29
theorem tw13 (Q:Z) (a:Act) (h:a.defers=[]/\a.tmps.size=43) (hl:Below W W w) (hQ:∀ a' w',bodyPost prog twoF (TwoR W) .ret a' w'->Q .ret a' w'):(part [1,1,1,1,0,1,0,0,1,1,0,0,1,0,1,0] (codeOf twoF)).wp prog Q a w:=by
 exact EY29
theorem tw3 (Q:Z) (a:Act) (hfr:Fr 43 a [(0,.slice A n c)]) (hQ:∀ a',Fr 43 a' [(0,.slice A n c),(3,.pointer (some ⟨w.heap.size,0,none⟩))]->Q .normal a' (w.alloc (.cells #[.pointer none,.pointer none,.int .i64 0,.slice none 0 0,.slice none 0 0] 119))):(part [1,1,0] (codeOf twoF)).wp prog Q a w:=by
 exact EY2
theorem tw4 (Q:Z) (a:Act) (hfr:Fr 43 a [(0,.slice A n c),(3,.pointer (some ⟨tb,0,none⟩))]) (hQ:∀ a',Fr 43 a' [(0,.slice A n c),(3,.pointer (some ⟨tb,0,none⟩)),(12,.int .i64 ((0:Nat):Nat))]->Q .normal a' w):(part [1,1,1,0,0] (codeOf twoF)).wp prog Q a w:=by
 exact EY2
theorem tw5 (Q:Z) (a:Act) (hfr:Fr 43 a [(0,.slice A n c),(3,.pointer (some ⟨tb,0,none⟩)),(12,.int .i64 (i:Nat))]) (hQ:∀ a',Fr 43 a' [(0,.slice A n c),(3,.pointer (some ⟨tb,0,none⟩)),(12,.int .i64 (i:Nat)),(13,.bool (decide ((i:Int)<2)))]->Q .normal a' w):(part [1,1,1,0,1,0,0,0] (codeOf twoF)).wp prog Q a w:=by
 exact EY2
theorem tw6 (Q:Z) (a:Act) (hfr:Fr 43 a [(0,.slice A n c),(3,.pointer (some ⟨tb,0,none⟩)),(12,.int .i64 (i:Nat))]) (hQ:∀ a',Fr 43 a' [(0,.slice A n c),(3,.pointer (some ⟨tb,0,none⟩)),(4,.int .i64 (i:Nat)),(12,.int .i64 (i:Nat))]->Q .normal a' w):(part [1,1,1,0,1,0,0,1,1,0,0,0] (codeOf twoF)).wp prog Q a w:=by
 exact EY2
theorem tw8 (hi:i<2) (Q:Z) (a:Act) (hfr:Fr 43 a [(0,.slice A n c),(3,.pointer (some ⟨tb,0,none⟩)),(12,.int .i64 (i:Nat))]) (hQ:∀ a',Fr 43 a' [(0,.slice A n c),(3,.pointer (some ⟨tb,0,none⟩)),(12,.int .i64 ((i+1:Nat):Nat))]->Q .normal a' w):(part [1,1,1,0,1,0,0,1,1,1] (codeOf twoF)).wp prog Q a w:=by
 have HQ:=J hQ
 clear hQ
 refine gg hfr fun t=>?_
 go_wp2_with fail
 exact HQ.out _ ⟨rfl,rfl,rfl,rfl,by simp [at_],trivial⟩
theorem tw_round {cs:Array Value} (hi:i<2) (hb:Blk w tb 119 cs) (hcs:cs.size=5) (Q:Z) (a:Act) (hfr:Fr 43 a [(0,.slice A n c),(3,.pointer (some ⟨tb,0,none⟩)),(12,.int .i64 (i:Nat))])
 (hQ:∀ a' g W1,Fr 43 a' [(0,.slice A n c),(3,.pointer (some ⟨tb,0,none⟩)),(12,.int .i64 ((i+1:Nat):Nat))]->NewLed W1 (tb+1) w.heap.size g->Below w w W1->Q .normal a' (W1.setCell ⟨tb,i,none⟩ (.pointer (some ⟨g,0,none⟩)))):(part [1,1,1,0,1,0,0] (codeOf twoF)).wp prog Q a w:=by
 refine Wt ?_
 refine tw5 _ a hfr fun a1 hf1=>?_
 show (part [1,1,1,0,1,0,0,1] (codeOf twoF)).wp prog Q a1 w
 refine Wt ?_
 obtain⟨hd,hz,f0,f3,f12,f13,-⟩:=hf1
 refine wp_if (o:=.tmp 13) (x:=part [1,1,1,0,1,0,0,1,0,0] (codeOf twoF)) (y:=part [1,1,1,0,1,0,0,1,0,1] (codeOf twoF)) (t:=decide ((i:Int)<2)) kr (eval_at f13 rfl) (fun _=>?_) fun h=>?_
 ·refine wp_nop kr ?_
  show (part [1,1,1,0,1,0,0,1,1] (codeOf twoF)).wp prog Q a1 w
  refine Wt ?_
  refine wp_blk (x:=part [1,1,1,0,1,0,0,1,1,0,0] (codeOf twoF)) (id:=1) kr ?_
  refine Wt ?_
  refine tw6 _ a1 ⟨hd,hz,f0,f3,f12,trivial⟩ fun a2 hf2=>?_
  show (part [1,1,1,0,1,0,0,1,1,0,0,1] (codeOf twoF)).wp prog _ a2 w
  refine tw7 _ a2 hf2 hi hb hcs fun a3 g W1 hf3 hn hl=>?_
  show (part [1,1,1,0,1,0,0,1,1,1] (codeOf twoF)).wp prog Q a3 _
  exact tw8 hi _ a3 hf3 fun a4 hf4=>hQ a4 g W1 hf4 hn hl
 ·have:=of_decide_eq_false h
  omega
theorem tw_out (Q:Z) (a:Act) (hfr:Fr 43 a [(0,.slice A n c),(3,.pointer (some ⟨tb,0,none⟩)),(12,.int .i64 ((2:Nat):Nat))]) (hQ:∀ a',Fr 43 a' [(0,.slice A n c),(3,.pointer (some ⟨tb,0,none⟩))]->Q (.exit 0) a' w):(part [1,1,1,0,1,0,0] (codeOf twoF)).wp prog Q a w:=by
 refine Wt ?_
 refine tw5 (i:=2) _ a hfr fun a1 hf1=>?_
 show (part [1,1,1,0,1,0,0,1] (codeOf twoF)).wp prog Q a1 w
 refine Wt ?_
 obtain⟨hd,hz,f0,f3,f12,f13,-⟩:=hf1
 refine wp_if (o:=.tmp 13) (x:=part [1,1,1,0,1,0,0,1,0,0] (codeOf twoF)) (y:=part [1,1,1,0,1,0,0,1,0,1] (codeOf twoF)) (t:=decide (((2:Nat):Int)<2)) kr (eval_at f13 rfl) (fun h=>?_) fun h=>?_
 ·have:=of_decide_eq_true h
  omega
 ·have e:part [1,1,1,0,1,0,0,1,0,1] (codeOf twoF)=Code.exit 0:=by kernel_rfl
  rw [e]
  exact wp_exit (hQ a1 ⟨hd,hz,f0,f3,trivial⟩)
theorem tw_loop1 (hb:Blk w tb 119 #[.pointer none,.pointer none,.int .i64 0,.slice none 0 0,.slice none 0 0]) (Q:Z) (a:Act) (hfr:Fr 43 a [(0,.slice A n c),(3,.pointer (some ⟨tb,0,none⟩))])
 (hQ:∀ a' w' g,Fr 43 a' [(0,.slice A n c),(3,.pointer (some ⟨tb,0,none⟩))]->Townly w' tb g 0 0->Below tb w w'->Q .normal a' w'):(part [1,1,1,0] (codeOf twoF)).wp prog Q a w:=by
 have htl:=hb.lt
 refine Wt ?_
 refine tw4 _ a hfr fun a1 hf1=>?_
 show (part [1,1,1,0,1] (codeOf twoF)).wp prog Q a1 w
 refine wp_blk (x:=part [1,1,1,0,1,0] (codeOf twoF)) (id:=0) kr ?_
 have el:part [1,1,1,0,1,0] (codeOf twoF)=Code.loop (part [1,1,1,0,1,0,0] (codeOf twoF)):=by kernel_rfl
 rw [el]
 refine wp_loop_rounds 3 ?_
 show (part [1,1,1,0,1,0,0] (codeOf twoF)).wp prog _ a1 w
 refine tw_round (i:=0) (by omega) hb rfl _ a1 hf1 fun a2 g0 W1 hf2 hn1 hl1=>?_
 show (part [1,1,1,0,1,0,0] (codeOf twoF)).wp prog _ a2 _
 have hb1:=(hb.below hl1 hb.lt).set_ 0 (.pointer (some ⟨g0,0,none⟩))
 have hk1:Kept (fun b=>b≠tb) W1 (W1.setCell ⟨tb,0,none⟩ (.pointer (some ⟨g0,0,none⟩))):=(Kept.refl _ _).set_ ⟨tb,0,none⟩ (.inl fun e=>e rfl) _
 have hB1:Below tb w (W1.setCell ⟨tb,0,none⟩ (.pointer (some ⟨g0,0,none⟩))):=(hl1.mono (Nat.le_of_lt htl)).setCell (p:=⟨tb,0,none⟩) (Nat.le_refl _) _
 have hn1':=LedIs.kept hn1 (hk1.mono fun b _ hy e=>by omega)
 obtain⟨w1,hw1⟩:∃ w1,w1=W1.setCell ⟨tb,0,none⟩ (.pointer (some ⟨g0,0,none⟩)):=⟨_,rfl⟩
 rw [<-hw1] at hb1 hk1 hB1 hn1' ⊢
 have hz1:w1.heap.size=W1.heap.size:=by rw [hw1];simp
 refine tw_round (i:=1) (by omega) hb1 rfl _ a2 hf2 fun a3 g1 W2 hf3 hn2 hl2=>?_
 show (part [1,1,1,0,1,0,0] (codeOf twoF)).wp prog _ a3 _
 have hb2:=(hb1.below hl2 hb1.lt).set_ 1 (.pointer (some ⟨g1,0,none⟩))
 have hk2:Kept (fun b=>b≠tb) W2 (W2.setCell ⟨tb,1,none⟩ (.pointer (some ⟨g1,0,none⟩))):=(Kept.refl _ _).set_ ⟨tb,1,none⟩ (.inl fun e=>e rfl) _
 have hB2:Below tb w1 (W2.setCell ⟨tb,1,none⟩ (.pointer (some ⟨g1,0,none⟩))):=(hl2.mono (Nat.le_of_lt hb1.lt)).setCell (p:=⟨tb,1,none⟩) (Nat.le_refl _) _
 have hz1t:=hb1.lt
 have hn2':=LedIs.kept hn2 (hk2.mono fun b _ hy e=>by omega)
 have hn12:=(hn1'.below hl2).kept (hk2.mono fun b _ hy e=>by omega)
 obtain⟨w2,hw2⟩:∃ w2,w2=W2.setCell ⟨tb,1,none⟩ (.pointer (some ⟨g1,0,none⟩)):=⟨_,rfl⟩
 rw [<-hw2] at hb2 hk2 hB2 hn2' hn12 ⊢
 have hz2:w2.heap.size=W2.heap.size:=by rw [hw2];simp
 have hs2:=hl2.size
 have hs1:=hl1.size
 refine tw_out _ a3 hf3 fun a4 hf4=>hQ a4 w2 (fun s=>if s=0 then g0 else g1) hf4 ?_ (hB1.trans hB2)
 refine⟨fun s=>if s=0 then (fun q=>w.heap.size<=q/\q<W1) else (fun q=>w1.heap.size<=q/\q<W2),fun _=>False,⟨fun _=>[],fun _=>0,0,[]⟩,fun _=>0,[],?_,TwoI.start,by decide,Nat.le_refl _⟩
 refine⟨fun s hs=>?_,fun s r hs hr hne q h1 h2=>?_,fun q hq=>hq.elim,none,0,0,none,0,[],?_,SentIs.nil_ _ _ _,rfl,World.ownsRow_nil _ _ _ _,fun q hq=>by simp [ob] at hq⟩
 ·rcases s with _|_|s
  ·exact hn12
  ·exact hn2'
  ·omega
 ·rcases s with _|_|s<;>rcases r with _|_|r
  ·exact hne rfl
  ·have h1:w.heap.size<=q/\q<W1:=h1
   have h2:w1.heap.size<=q/\q<W2:=h2
   omega
  ·omega
  ·have h1:w1.heap.size<=q/\q<W2:=h1
   have h2:w.heap.size<=q/\q<W1:=h2
   omega
  ·exact hne rfl
  ·omega
  ·omega
  ·omega
  ·omega
 ·exact hb2
theorem tw9 (Q:Z) (a:Act) (hfr:Fr 43 a [(0,.slice A n c),(3,.pointer (some ⟨tb,0,none⟩))]) (hQ:∀ a',Fr 43 a' [(3,.pointer (some ⟨tb,0,none⟩)),(25,.slice A n c),(26,.int .i64 (n:Nat)),(27,.int .i64 ((0:Nat):Nat))]->Q .normal a' w):(part [1,1,1,1,0,0] (codeOf twoF)).wp prog Q a w:=by
 exact EY2
theorem tw10 (Q:Z) (a:Act) (hfr:Fr 43 a [(3,.pointer (some ⟨tb,0,none⟩)),(25,.slice A n c),(26,.int .i64 (n:Nat)),(27,.int .i64 (k:Nat))]) (hQ:∀ a',Fr 43 a' [(3,.pointer (some ⟨tb,0,none⟩)),(25,.slice A n c),(26,.int .i64 (n:Nat)),(27,.int .i64 (k:Nat)),(28,.bool (decide (k<n)))]->Q .normal a' w):(part [1,1,1,1,0,1,0,0,0] (codeOf twoF)).wp prog Q a w:=by
 exact EY2
theorem tw11 {S:Nat->Prop} {xs:List TurnX} (Q:Z) (a:Act) (hfr:Fr 43 a [(3,.pointer (some ⟨tb,0,none⟩)),(25,.slice A n c),(26,.int .i64 (n:Nat)),(27,.int .i64 (k:Nat))]) (hm:TurnsIs w S A n xs) (hk:k<n)
 (hQ:∀ a' w' (x:TurnX),Fr 43 a' [(3,.pointer (some ⟨tb,0,none⟩)),(6,.pointer (some ⟨w.heap.size,0,none⟩)),(25,.slice A n c),(26,.int .i64 (n:Nat)),(27,.int .i64 (k:Nat))]->Blk w' w 121 x.cells.toArray->TurnIs w' S x.cells.toArray x.c->x.c.o.Ok->Below w w w'->Q .normal a' w') :
 (part [1,1,1,1,0,1,0,0,1,1,0,0,0] (codeOf twoF)).wp prog Q a w:=by
 obtain⟨ad,x,rfl,hx,hcell,hab,h13,hmi,hok⟩:=hm.at_ hk
 have h1:x.cells.toArray.all (·.oneCell')=true:=by
  obtain⟨hA,hn',hc',e,-⟩:=hmi
  rw [e]
  exact turnC_one
 have hlt:(k:Int)<(n:Int):=by omega
 have hb0:Below w w ((w.alloc (.cells noTurn 121)).setCells w.heap.size 0 x.cells):=below_setCells (Nat.le_refl _) ((Below.refl _ _).alloc (Nat.le_refl _) _) _ _
 have hbk:Blk ((w.alloc (.cells noTurn 121)).setCells w.heap.size 0 x.cells) w.heap.size 121 x.cells.toArray:=(Blk.new w 121 noTurn).setCells_ x.cells (by rw [h13];rfl)
 obtain⟨HC,H13,HMI,HOK,H1,HB,HK,HQ⟩:=J8 hcell h13 hmi hok h1 hb0 hbk hQ
 clear hQ hm hx hcell h13 hok h1 hb0 hbk hab hmi
 refine gg hfr fun t=>?_
 go_wp2_with (first|refine wpList_load_any rfl 121 (.tmp 29) rfl (ad.add (k*13)) rfl x.cells _ HC.out underlying121 rfl (by rw [H13.out];exact Try.sizeTurn) ?_|refine wpList_store_mid rfl 121 (.tmp 6) (.tmp 30) rfl w.heap.size 0 x.cells.toArray rfl rfl ((Blk.new w 121 noTurn).there_ 0 _ (by show 0+x.cells.toArray.size<=13;rw [List.size_toArray,H13.out];exact Nat.le_refl _)) (by rw [List.size_toArray,H13.out];exact Try.sizeTurn) H1.out ?_)
 exact HQ.out _ _ x ff HK.out (HMI.out.below HB.out) HOK.out HB.out
theorem tw12 {b6:Nat} {x:TurnC} {hA:O} {hn hc:Nat} {S:Nat->Prop} (Q:Z) (a:Act) (hfr:Fr 43 a [(3,.pointer (some ⟨tb,0,none⟩)),(6,.pointer (some ⟨b6,0,none⟩)),(25,.slice A n c),(26,.int .i64 (n:Nat)),(27,.int .i64 (k:Nat))]) (hb:Blk w b6 121 (turnC x hA hn hc)) (hs:StrIs w S hA hn hc x.o.hs) (hok:x.o.Ok)
 (hQ:∀ a' w' r,Fr 43 a' [(3,.pointer (some ⟨tb,0,none⟩)),(6,.pointer (some ⟨b6,0,none⟩)),(25,.slice A n c),(26,.int .i64 (n:Nat)),(27,.int .i64 (k:Nat)),(35,.bool r)]->Below w w w'->Q .normal a' w') :
 (part [1,1,1,1,0,1,0,0,1,1,0,0,1,0,0] (codeOf twoF)).wp prog Q a w:=by
 have d4:=hb.c1 4
 have d5:=hb.c1 5
 have d6:=hb.c1 6
 have d7:=hb.c1 7
 have d8:=hb.c1 8
 have d9:=hb.c1 9
 have d10:=hb.c1 10
 have d11:=hb.c1 11
 have d12:=hb.c1 12
 have hl:=hs.len
 have hks:=hok.hs
 have hbl:Below w w (w.alloc (.cells (cmdC 0 0 0 x.o hA hn hc 0 0 none 0 0 0) 47)):=(Below.refl _ _).alloc (Nat.le_refl _) _
 obtain⟨HG,HQ,HB⟩:=J3 (great12_any (Blk.new w 47 (cmdC 0 0 0 x.o hA hn hc 0 0 none 0 0 0)) (by omega) (by have:=hok.name;omega)) hQ hbl
 clear hQ hb hs hok hl hks hbl
 refine gg hfr fun t=>?_
 go_wp2_with fail
 refine HG.out.mono ?_
 rintro e w' ⟨⟨r,rfl⟩,hb⟩
 have HB2:=J (HB.out.trans (hb.mono HB.out.size))
 clear hb d4 d5 d6 d7 d8 d9 d10 d11 d12
 go_wp2_with fail
 exact HQ.out _ _ r ff HB2.out
theorem tw14 {b6:Nat} {x:TurnC} {hA:O} {hn hc:Nat} {R:World->Prop} (Q:Z) (a:Act) (hfr:Fr 43 a [(3,.pointer (some ⟨tb,0,none⟩)),(6,.pointer (some ⟨b6,0,none⟩)),(25,.slice A n c),(26,.int .i64 (n:Nat)),(27,.int .i64 (k:Nat))]) (hb:Blk w b6 121 (turnC x hA hn hc))
 (ht:Calls prog 74 #[.pointer (some ⟨tb,0,none⟩),.agg (turnC x hA hn hc)] w fun e w'=>e=.returned (.tuple #[])/\R w')
 (hQ:∀ a' w',Fr 43 a' [(3,.pointer (some ⟨tb,0,none⟩)),(25,.slice A n c),(26,.int .i64 (n:Nat)),(27,.int .i64 (k:Nat))]->R w'->Q .normal a' w'):(part [1,1,1,1,0,1,0,0,1,1,0,0,1,1] (codeOf twoF)).wp prog Q a w:=by
 obtain⟨HB,HT,HQ⟩:=J3 hb.range ht hQ
 clear hQ hb ht
 refine gg hfr fun t=>?_
 go_wp2_with (refine wpList_load_mid rfl 121 (.tmp 6) rfl b6 0 rfl _ _ HB.out underlying121 rfl Try.sizeTurn ?_)
 refine HT.out.mono ?_
 rintro e w' ⟨rfl,hr⟩
 have HR:=J hr
 clear hr
 go_wp2_with fail
 exact HQ.out _ _ ff HR.out
theorem tw15 (hk:k<4294967296) (Q:Z) (a:Act) (hfr:Fr 43 a [(3,.pointer (some ⟨tb,0,none⟩)),(25,.slice A n c),(26,.int .i64 (n:Nat)),(27,.int .i64 (k:Nat))]) (hQ:∀ a',Fr 43 a' [(3,.pointer (some ⟨tb,0,none⟩)),(25,.slice A n c),(26,.int .i64 (n:Nat)),(27,.int .i64 ((k+1:Nat):Nat))]->Q .normal a' w):(part [1,1,1,1,0,1,0,0,1,1,1] (codeOf twoF)).wp prog Q a w:=by
 have HQ:=J hQ
 clear hQ
 refine gg hfr fun t=>?_
 go_wp2_with fail
 exact HQ.out _ ⟨rfl,rfl,rfl,rfl,rfl,by simp [at_],trivial⟩
theorem tw16 (R:Ending->World->Prop) (a:Act) (hfr:Fr 43 a [(3,.pointer (some ⟨tb,0,none⟩))]) (hR:R (.returned (.pointer (some ⟨tb,0,none⟩))) w):(part [1,1,1,1,1] (codeOf twoF)).wp prog (bodyPost prog twoF R) a w:=by
 have HR:=J hR
 clear hR
 refine gg hfr fun t=>?_
 go_wp2_with fail
 exact HR.out
def TwI (W:World) (tb:Nat) (g:Nat->Nat) (A:O) (n c:Nat) (a:Act) (w:World):Prop:=∃ k,k<=n/\Fr 43 a [(3,.pointer (some ⟨tb,0,none⟩)),(25,.slice A n c),(26,.int .i64 (n:Nat)),(27,.int .i64 (k:Nat))]/\Townly w tb g (k*80) k/\Below W W w/\tb<w
def muTw (n:Nat) (a:Act):Nat:=n-(match at_ a.tmps 27 with|.int _ k=>k.toNat|_=>0)
theorem tw_loop2 {xs:List TurnX} {g:Nat->Nat} (htb:tb=W.heap.size) (hm:TurnsIs W Any A n xs) (hn:n<=200) (ht:Townly w tb g 0 0) (hl:Below W W w) {Q:Z} (a:Act) (hfr:Fr 43 a [(0,.slice A n c),(3,.pointer (some ⟨tb,0,none⟩))])
 (hret:∀ a' w',bodyPost prog twoF (TwoR W) .ret a' w'->Q .ret a' w') (hQ:∀ a' w',Fr 43 a' [(3,.pointer (some ⟨tb,0,none⟩))]->Townly w' tb g 16000 200->Below W W w'->Q .normal a' w') :
 (part [1,1,1,1,0] (codeOf twoF)).wp prog Q a w:=by
 have round:∀ (Q:Z) (hret:∀ a' w',bodyPost prog twoF (TwoR W) .ret a' w'->Q .ret a' w') (hexit:∀ a' w',Fr 43 a' [(3,.pointer (some ⟨tb,0,none⟩))]->Townly w' tb g 16000 200->Below W W w'->Q (.exit 2) a' w')
  (a:Act) (w:World),TwI W tb g A n c a w->(∀ a' w',TwI W tb g A n c a' w'/\muTw n a'<muTw n a->Q .normal a' w')->(part [1,1,1,1,0,1,0,0] (codeOf twoF)).wp prog Q a w:=by
  intro Q hret hexit a w ⟨k,hk,hf,h,hb,htw⟩ hQ
  have hmu:at_ a.tmps 27=.int .i64 (k:Nat):=hf.2.2.2.2.2.1
  refine Wt ?_
  refine tw10 _ a hf fun a1 hf1=>?_
  show (part [1,1,1,1,0,1,0,0,1] (codeOf twoF)).wp prog _ a1 w
  refine Wt ?_
  obtain⟨hd,hz,f3,f25,f26,f27,f28,-⟩:=hf1
  refine wp_if (o:=.tmp 28) (x:=part [1,1,1,1,0,1,0,0,1,0,0] (codeOf twoF)) (y:=part [1,1,1,1,0,1,0,0,1,0,1] (codeOf twoF)) (t:=decide (k<n)) kr (eval_at f28 rfl) (fun ht=>?_) fun ht=>?_
  ·have hk1:=of_decide_eq_true ht
   refine wp_nop kr ?_
   show (part [1,1,1,1,0,1,0,0,1,1] (codeOf twoF)).wp prog Q a1 w
   refine Wt ?_
   refine wp_blk (x:=part [1,1,1,1,0,1,0,0,1,1,0,0] (codeOf twoF)) (id:=3) kr ?_
   refine Wt ?_
   have hts:TurnsIs w (fun q=>q<W) A n xs:=(hm.mono (S':=fun q=>q<W) fun q hq _=>hq).below hb
   refine tw11 _ a1 ⟨hd,hz,f3,f25,f26,f27,trivial⟩ hts hk1 fun a2 w2 x hf2 hbx hti hok hb2=>?_
   show (part [1,1,1,1,0,1,0,0,1,1,0,0,1] (codeOf twoF)).wp prog _ a2 w2
   obtain⟨hA,hn',hc',ecells,hst⟩:=hti
   rw [ecells] at hbx
   refine Wt ?_
   refine Wt ?_
   refine tw12 _ a2 hf2 hbx hst hok fun a3 w3 r hf3 hb3=>?_
   show (part [1,1,1,1,0,1,0,0,1,1,0,0,1,0,1] (codeOf twoF)).wp prog _ a3 w3
   have hb23:=hb2.trans (hb3.mono hb2.size)
   have hbW:=hb.trans (hb23.mono hb.size)
   obtain⟨hd,hz,f3,f6,f25,f26,f27,f35,-⟩:=hf3
   refine wp_if (o:=.tmp 35) (x:=part [1,1,1,1,0,1,0,0,1,1,0,0,1,0,1,0] (codeOf twoF)) (y:=part [1,1,1,1,0,1,0,0,1,1,0,0,1,0,1,1] (codeOf twoF)) (t:=r) kr (eval_at f35 rfl) (fun _=>?_) fun _=>?_
   ·exact tw13 _ a3 ⟨hd,hz⟩ hbW (by exact fun a' w' hq=>hret a' w' hq)
   ·refine wp_nop kr ?_
    show (part [1,1,1,1,0,1,0,0,1,1,0,0,1,1] (codeOf twoF)).wp prog _ a3 w3
    have h3:Townly w3 tb g (k*80) k:=by
     obtain⟨Y,X,t,own,G,q1,q2,q3,q4⟩:=h
     exact⟨Y,X,t,own,G,q1.below hb23,q2,q3,q4⟩
    refine tw14 _ a3 ⟨hd,hz,f3,f6,f25,f26,f27,trivial⟩ (hbx.below hb3 hbx.lt) (turn_any h3 (by omega) (by omega) (hst.below hb3) (fun q hq=>by rw [htb];exact hq) hok) fun a4 w4 hf4 hr4=>?_
    show (part [1,1,1,1,0,1,0,0,1,1,1] (codeOf twoF)).wp prog Q a4 w4
    refine tw15 (by omega) _ a4 hf4 fun a5 hf5=>hQ a5 w4 ⟨⟨k+1,hk1,hf5,by rw [Nat.succ_mul];exact hr4.1,hbW.trans (htb▸hr4.2),by have:=hr4.2.size;have:=hb23.size;omega⟩,?_⟩
    have e2:at_ a5.tmps 27=.int .i64 ((k+1:Nat):Nat):=hf5.2.2.2.2.2.1
    unfold muTw
    exact EY24
  ·have e:part [1,1,1,1,0,1,0,0,1,0,1] (codeOf twoF)=Code.exit 2:=by kernel_rfl
   rw [e]
   refine wp_exit (hexit a1 w ⟨hd,hz,f3,trivial⟩ ?_ hb)
   obtain⟨Y,X,t,own,G,q1,q2,q3,q4⟩:=h
   exact⟨Y,X,t,own,G,q1.moreK (by omega),q2,q3,by omega⟩
 refine Wt ?_
 refine tw9 _ a hfr fun a1 hf1=>?_
 show (part [1,1,1,1,0,1] (codeOf twoF)).wp prog Q a1 w
 refine wp_blk (x:=part [1,1,1,1,0,1,0] (codeOf twoF)) (id:=2) kr ?_
 have el:part [1,1,1,1,0,1,0] (codeOf twoF)=Code.loop (part [1,1,1,1,0,1,0,0] (codeOf twoF)):=by kernel_rfl
 rw [el]
 have htl:tb<w:=by obtain⟨Y,X,t,own,G,q1,_⟩:=ht;exact q1.tl
 refine wp_loop (TwI W tb g A n c) (fun a _=>muTw n a) ⟨0,Nat.zero_le _,hf1,by rw [Nat.zero_mul];exact ht,hl,htl⟩ fun a2 w2 hI=>?_
 refine round _ ?_ ?_ a2 w2 hI ?_
 ·exact fun a' w' hq=>hret a' w' hq
 ·exact fun a' w' hf h hb=>hQ a' w' hf h hb
 ·exact fun a' w' hh=>hh
theorem two_any {xs:List TurnX} (hm:TurnsIs W Any A n xs):Calls prog 23 #[.slice A n c] W (TwoR W):=by
 have rest:∀ (a:Act),Fr 43 a [(0,.slice A n c)]->(part [1] (codeOf twoF)).wp prog (bodyPost prog twoF (TwoR W)) a W:=by
  intro a hfr
  refine Wt ?_
  refine Wt ?_
  refine tw1 _ a hfr fun a1 hf1=>?_
  show (part [1,0,1] (codeOf twoF)).wp prog _ a1 W
  obtain⟨hd,hz,f0,f9,-⟩:=hf1
  refine wp_if (o:=.tmp 9) (x:=part [1,0,1,0] (codeOf twoF)) (y:=part [1,0,1,1] (codeOf twoF)) (t:=decide ((200:Int)<(n:Nat))) kr (eval_at f9 rfl) (fun _=>?_) fun hn2=>?_
  ·exact tw2 _ a1 ⟨hd,hz⟩ (Below.refl _ _) fun a' w' h=>h
  ·have hn200:=of_decide_eq_false hn2
   refine wp_nop kr ?_
   show (part [1,1] (codeOf twoF)).wp prog _ a1 W
   refine Wt ?_
   refine tw3 _ a1 ⟨hd,hz,f0,trivial⟩ fun a2 hf2=>?_
   show (part [1,1,1] (codeOf twoF)).wp prog _ a2 _
   have hb:=Blk.new W 119 #[.pointer none,.pointer none,.int .i64 0,.slice none 0 0,.slice none 0 0]
   have hl0:Below W W (W.alloc (.cells #[.pointer none,.pointer none,.int .i64 0,.slice none 0 0,.slice none 0 0] 119)):=(Below.refl _ _).alloc (Nat.le_refl _) _
   refine Wt ?_
   refine tw_loop1 hb _ a2 hf2 fun a3 w3 g hf3 ht3 hl3=>?_
   show (part [1,1,1,1] (codeOf twoF)).wp prog _ a3 w3
   refine Wt ?_
   refine tw_loop2 rfl hm (by omega) ht3 (hl0.trans hl3) a3 hf3 (fun a' w' h=>h) fun a4 w4 hf4 ht4 hl4=>?_
   show (part [1,1,1,1,1] (codeOf twoF)).wp prog _ a4 w4
   exact tw16 _ a4 hf4 ⟨hl4,.inr ⟨W.heap.size,g,rfl,Nat.le_refl _,ht4⟩⟩
 have HR:=J rest
 clear rest hm
 go_enter func23,ntmps23
 conv=>arg 2;arg 2;change part [1] (codeOf twoF)
 go_wp2_with fail
 exact HR.out _ ff
end
end Go.Proofs.Ytaipgdhdfpemcaa
