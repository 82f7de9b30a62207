/- THE WALKS OF THE LANE, part 23. -/
import Derived.Test.YtaipgdhdfpemcaaG15
namespace Go.Proofs.Ytaipgdhdfpemcaa
set_option linter.all false
open Go.RowKit Go.Proofs.Try
set_option maxRecDepth 100000
set_option maxHeartbeats 4000000
@[reducible] noncomputable def takeF:Func:=Try.f28
def Turn (g:Nat) (w w':World):Prop:=Save g w w'/\Below g w w'
section
variable {g:Nat} {w w' w'':World}
theorem Turn.refl (g:Nat) (w:World):Turn g w w:=⟨fun _ _ _=>rfl,Below.refl _ _⟩
theorem Turn.size (h:Turn g w w'):w.heap.size<=w':=h.2.size
theorem Turn.trans (h:Turn g w w') (h':Turn g w' w''):Turn g w w'':=⟨h.1.trans h.2.size h'.1,h.2.trans h'.2⟩
theorem Turn.of (hg:g<=w) (h:Below w w w'):Turn g w w':=⟨Save.of h,h.mono hg⟩
theorem Turn.next (h:Turn g w w') (hg:g<=w') (hb:Below w'.heap.size w' w''):Turn g w w'':=h.trans (Turn.of hg hb)
end
def BoxIs (w:World) (S:Nat->Prop) (b:Nat) (m:MailC):Prop:=
 ∃ eA en ec hA hn hc oA on oc pA pn pc,Blk w b 30 (mailC m.kind m.term m.index m.prev m.commit m.good eA en ec m.data hA hn hc m.epoch m.site m.atN m.atE m.whN m.whE oA on oc pA pn pc)/\IntIs w S oA on oc m.holes
section
variable {m:MailC} {b:Nat} {S:Nat->Prop} {w w':World}
theorem BoxIs.below (h:BoxIs w S b m) (hb:Below w w w'):BoxIs w' S b m:=by
 obtain⟨eA,en,ec,hA,hn,hc,oA,on,oc,pA,pn,pc,h1,h2⟩:=h
 exact⟨eA,en,ec,hA,hn,hc,oA,on,oc,pA,pn,pc,h1.below hb h1.lt,h2.below hb⟩
theorem BoxIs.kept (h:BoxIs w S b m) (hk:Kept S w w') (hb:S b):BoxIs w' S b m:=by
 obtain⟨eA,en,ec,hA,hn,hc,oA,on,oc,pA,pn,pc,h1,h2⟩:=h
 exact⟨eA,en,ec,hA,hn,hc,oA,on,oc,pA,pn,pc,(hk.2 b hb h1.lt).trans h1,h2.kept hk⟩
end
structure Tk (w0 w:World) (S:Nat->Prop) (lb bx:Nat) (l:LaneC) (m:MailC) (A:O) (n cap:Nat) (os:List OpC):Prop where
 lane:LaneIs w S lb l
 box:BoxIs w S bx m
 bxS:S bx
 ops:OpsIs w S A n cap os
 turn:Turn lb w0 w
section
variable {w0 w w':World} {S:Nat->Prop} {lb bx:Nat} {l l':LaneC} {m:MailC} {A:O} {n cap:Nat} {os:List OpC}
section
variable (h:Tk w0 w S lb bx l m A n cap os)
include h
theorem Tk.below (hb:Below w w w'):Tk w0 w' S lb bx l m A n cap os:=
 ⟨h.lane.below hb,h.box.below hb,h.bxS,h.ops.below hb,h.turn.next (Nat.le_of_lt h.lane.lt) hb⟩
theorem Tk.drew:Tk w0 w.drew S lb bx l m A n cap os:=h.below ⟨rfl,rfl,rfl,Nat.le_refl _,fun _ _=>rfl⟩
theorem Tk.drewN (k:Nat):Tk w0 (w.drewN k) S lb bx l m A n cap os:=h.below ⟨rfl,rfl,rfl,Nat.le_refl _,fun _ _=>rfl⟩
theorem Tk.turned (hL:¬ S lb) (ht:Turn lb w w') (hl:LaneIs w' S lb l'):Tk w0 w' S lb bx l' m A n cap os:=by
 have hk:Kept S w w':=⟨ht.size,fun b h1 h2=>ht.1 b h2 (by rintro rfl;exact hL h1)⟩
 exact⟨hl,h.box.kept hk h.bxS,h.bxS,h.ops.kept hk,h.turn.trans ht⟩
end
end
def LaneC.further (l:LaneC) (N E:Int):LaneC:=if l.mN<N then {l with mN:=N,mE:=E} else l
section
variable {l:LaneC} {os:List OpC} {m:MailC} {b bx cap lb n oc on:Nat} {S:Nat->Prop} {A oA:O} {w w' w0:World}
theorem LaneC.further_twice (l:LaneC) (N E:Int):(l.further N E).further N E=l.further N E:=by
 unfold LaneC.further
 by_cases h:l.mN<N
 ·simp [h]
 ·simp [h]
theorem further_lane (N E:Int) (hi:IntIs w S oA on oc l.holes) (hL:¬ S b) (ht:Turn b w w') (hk:Blk w' b 127 (further (laneC l.mN l.mE l.wN l.wE oA on oc l.epoch l.site l.next) l.mN N E)):LaneIs w' S b (l.further N E):=by
 have hi':IntIs w' S oA on oc l.holes:=hi.kept ⟨ht.size,fun x h1 h2=>ht.1 x h2 (by rintro rfl;exact hL h1)⟩
 unfold further at hk
 unfold LaneC.further
 by_cases h:l.mN<N
 ·rw [if_pos h] at hk ⊢
  exact⟨oA,on,oc,hk,hi'⟩
 ·rw [if_neg h] at hk ⊢
  exact⟨oA,on,oc,hk,hi'⟩
theorem take6 (Q:Z) (a:Act) (hL:¬ S lb) (hU:∀ b,w0.heap.size<=b->S b) (hfr:Fr 109 a [(0,lb),(2,.slice A n cap),(4,bx)]) (h:Tk w0 w S lb bx l m A n cap os) (hn:n<=4294967296) (hQ:∀ a' w',Fr 109 a' [(0,lb),(2,.slice A n cap),(4,bx),(60,(decide (0<m.atN)&&hasB os m.atN m.atE))]->Tk w0 w' S lb bx l m A n cap os->Q .normal a' w') :
 (part [1,1,0,0,1,1,1,0,0,0] (codeOf takeF)).wp prog Q a w:=by
 obtain⟨HT,HQ,HL,HU⟩:=J4 h hQ hL hU
 clear h hQ hL hU
 refine gg hfr fun t=>?_
 obtain⟨eA,en,ec,hA,hn',hc,oA,on,oc,pA,pn,pc,kb,ko⟩:=HT.out.box
 obtain⟨c11,c12⟩:=kb.cs 11 2
 clear kb ko
 by_cases h0:0<m.atN
 ·have d0:decide (0<m.atN)=true:=decide_eq_true h0
  have HB:=J ((Below.refl w.heap.size w).alloc (Nat.le_refl _) (.cells #[m.atN,m.atE] 26))
  have HG:=J (Blk.new w 26 #[m.atN,m.atE])
  clear h0
  go_wp2_with fail
  refine (has_any os _ (HT.out.below HB.out).ops hn HG.out).mono ?_
  rintro e w1 ⟨rfl,hb1⟩
  have hb:=HB.out.trans (hb1.mono HB.out.size)
  have HB1:=J hb
  clear hb1 hb
  go_wp2_with fail
  exact HQ.out _ _ ⟨rfl,rfl,rfl,rfl,rfl,by rw [d0];rfl,trivial⟩ (HT.out.below HB1.out)
 ·have d0:decide (0<m.atN)=false:=decide_eq_false h0
  clear h0
  go_wp2_with fail
  exact HQ.out _ _ ⟨rfl,rfl,rfl,rfl,rfl,by rw [d0];rfl,trivial⟩ HT.out
end
structure Tk2 (w0 w:World) (S:Nat->Prop) (lb bx:Nat) (l l1:LaneC) (m:MailC) (A:O) (n cap:Nat) (os:List OpC):Prop where
 lane:LaneIs w S lb l\/LaneIs w S lb l1
 box:BoxIs w S bx m
 bxS:S bx
 ops:OpsIs w S A n cap os
 turn:Turn lb w0 w
section
variable {w0 w w':World} {S:Nat->Prop} {lb bx:Nat} {l l1:LaneC} {m:MailC} {A:O} {n cap:Nat} {os:List OpC}
section
variable (h:Tk2 w0 w S lb bx l l1 m A n cap os)
include h
theorem Tk2.lt:lb<w:=by rcases h.lane with h|h<;>exact h.lt
theorem Tk2.below (hb:Below w w w'):Tk2 w0 w' S lb bx l l1 m A n cap os:=
 ⟨h.lane.imp (·.below hb) (·.below hb),h.box.below hb,h.bxS,h.ops.below hb,h.turn.next (Nat.le_of_lt h.lt) hb⟩
end
theorem Tk.two (h:Tk w0 w S lb bx l m A n cap os):Tk2 w0 w S lb bx l l1 m A n cap os:=⟨.inl h.lane,h.box,h.bxS,h.ops,h.turn⟩
section
variable (h:Tk2 w0 w S lb bx l l1 m A n cap os)
include h
theorem Tk2.one (hl:LaneIs w S lb l1):Tk w0 w S lb bx l1 m A n cap os:=⟨hl,h.box,h.bxS,h.ops,h.turn⟩
theorem Tk2.turned (hL:¬ S lb) (ht:Turn lb w w') (hl:LaneIs w' S lb l1):Tk2 w0 w' S lb bx l l1 m A n cap os:=by
 have hk:Kept S w w':=⟨ht.size,fun b h1 h2=>ht.1 b h2 (by rintro rfl;exact hL h1)⟩
 exact⟨.inr hl,h.box.kept hk h.bxS,h.bxS,h.ops.kept hk,h.turn.trans ht⟩
end
theorem setCell_turn (b o:Nat) (u:Value) (w:World):Turn b w (w.setCell ⟨b,o,none⟩ u):=⟨fun x _ h2=>Below.heap_setCell w ⟨b,o,none⟩ u x h2,(Below.refl _ _).setCell (p:=⟨b,o,none⟩) (Nat.le_refl _) _⟩
theorem setCells_turn (b o:Nat) (vs:List Value) (w:World):Turn b w (w.setCells b o vs):=⟨save_setCells w b o vs,below_setCells (Nat.le_refl _) (Below.refl _ _) _ _⟩
end
section
variable {l:LaneC} {os:List OpC} {m:MailC} {bx cap lb n:Nat} {S:Nat->Prop} {A:O} {w w0:World}
section
variable (Q:Z) (a:Act) (hL:¬ S lb) (hU:∀ b,w0.heap.size<=b->S b) (hfr:Fr 109 a [(0,lb),(2,.slice A n cap),(4,bx)]) (h:Tk w0 w S lb bx l m A n cap os)
include Q a hL hU hfr h
theorem take7 (hQ:∀ a' w',Fr 109 a' [(0,lb),(2,.slice A n cap),(4,bx)]->Tk w0 w' S lb bx (l.further m.atN m.atE) m A n cap os->Q .normal a' w') :
 (part [1,1,0,0,1,1,1,0,0,1,0,0] (codeOf takeF)).wp prog Q a w:=by
 obtain⟨HT,HQ,HL,HU⟩:=J4 h hQ hL hU
 clear h hQ hL hU
 refine gg hfr fun t=>?_
 obtain⟨l1,hl1⟩:∃ l1,l1=l.further m.atN m.atE:=⟨_,rfl⟩
 have HE:=J hl1
 clear hl1
 refine wp_region_all kr (fun i v W=>match i with|0=>v=lb|1=>v=lb|2=>v=lb|3=>v=lb|4=>v=.pointer (some ⟨bx,11,none⟩)|5=>v=.agg #[m.atN,m.atE]|6=>LaneIs W S lb l1|_=>True) (fun W=>Tk2 w0 W S lb bx l l1 m A n cap os) (fun W W'=>Turn lb W W'/\(LaneIs W S lb l1->LaneIs W' S lb l1)) kr ?hG ?hmono ?hstep ?hend
 case hG=>exact HT.out.drew.two
 case hmono=>
  intro i v W W' hx hv
  match i with
  | 6=>
   exact hx.2 hv
  | 0|1|2|3|4|5=>exact hv
  | i+7=>exact hv
 case hstep=>
  intro i o F U W ho hGW hat hoff hp
  have hrefl:=fun W:World=>(⟨Turn.refl _ _,fun h=>h⟩:Turn lb W W/\(LaneIs W S lb l1->LaneIs W S lb l1))
  match i with
   | 0=>cases ho;refine on_ (wanted_none rfl) ?_;have e0:=oo 0 lb;exact wp_move' (.tmp 0) rfl ⟨_,rfl,e0,hGW,hrefl W⟩
   | 1=>
    cases ho;refine on_ (wanted_none rfl) ?_
    have e61:F.eval (.tmp 61)=.pointer (some ⟨lb,0,none⟩):=(hat 0 61 kd rfl).trans (hp ⟨0,.data⟩ (by simp) rfl:U 0=.pointer (some ⟨lb,0,none⟩))
    have t61:=act_tmp e61;clear hat hoff hp
    exact Y7
   | 2=>
    cases ho;refine on_ (wanted_none rfl) ?_
    have e62:F.eval (.tmp 62)=.pointer (some ⟨lb,0,none⟩):=(hat 1 62 kd rfl).trans (hp ⟨1,.data⟩ (by simp) rfl:U 1=.pointer (some ⟨lb,0,none⟩))
    have t62:=act_tmp e62;clear hat hoff hp
    exact Y7
   | 3=>
    cases ho;refine on_ (wanted_none rfl) ?_
    have e63:F.eval (.tmp 63)=.pointer (some ⟨lb,0,none⟩):=(hat 2 63 kd rfl).trans (hp ⟨2,.data⟩ (by simp) rfl:U 2=.pointer (some ⟨lb,0,none⟩))
    have t63:=act_tmp e63;clear hat hoff hp
    exact Y7
   | 4=>
    exact Y44
   | 5=>
    cases ho;refine on_ (wanted_none rfl) ?_
    have e65:F.eval (.tmp 65)=.pointer (some ⟨bx,11,none⟩):=(hat 4 65 kd rfl).trans (hp ⟨4,.data⟩ (by simp) rfl:U 4=.pointer (some ⟨bx,11,none⟩))
    have t65:=act_tmp e65;clear hat hoff hp;obtain⟨eA,en,ec,hA,hn',hc,oA,on,oc,pA,pn,pc,kb,ko⟩:=hGW.box;obtain⟨d0,d1⟩:=kb.cs 11 2
    exact Y134
   | 6=>
    cases ho;refine on_ (wanted_none rfl) ?_
    have e64:F.eval (.tmp 64)=.pointer (some ⟨lb,0,none⟩):=(hat 3 64 kd rfl).trans (hp ⟨3,.data⟩ (by simp) rfl:U 3=.pointer (some ⟨lb,0,none⟩))
    have t64:=act_tmp e64
    have e66:F.eval (.tmp 66)=.agg #[m.atN,m.atE]:=(hat 5 66 kd rfl).trans (hp ⟨5,.data⟩ (by simp) rfl:U 5=.agg #[m.atN,m.atE])
    have t66:=act_tmp e66;clear hat hoff hp
    refine wp_enter' 78 #[.pointer (some ⟨lb,0,none⟩),.agg #[m.atN,m.atE]] (by unfold execOp;go_simp) ?_
    have hgo:∀ l0:LaneC,l0.further m.atN m.atE=l1->LaneIs W S lb l0->Calls prog 78 #[.pointer (some ⟨lb,0,none⟩),.agg #[m.atN,m.atE]] W fun e W'=>e=.returned (.tuple #[])/\LaneIs W' S lb l1/\Turn lb W W':=by
     rintro l0 hl0 ⟨oA,on,oc,kl,ki⟩
     refine (further_any lb _ _ l0.mN l0.mE m.atN m.atE W kl rfl rfl).mono ?_
     rintro e W' ⟨rfl,hk,hs,hb⟩
     exact⟨rfl,by rw [<-hl0];exact further_lane _ _ ki HL.out ⟨hs,hb⟩ hk,hs,hb⟩
    have hcall:Calls prog 78 #[.pointer (some ⟨lb,0,none⟩),.agg #[m.atN,m.atE]] W fun e W'=>e=.returned (.tuple #[])/\LaneIs W' S lb l1/\Turn lb W W':=by
     rcases hGW.lane with h|h
     ·exact hgo l HE.out.symm h
     ·exact hgo l1 (by rw [HE.out,LaneC.further_twice]) h
    refine hcall.mono ?_
    rintro e W' ⟨rfl,hl,ht⟩
    exact⟨_,rfl,_,rfl,hl,hGW.turned HL.out ht hl,ht,fun _=>hl⟩
   | i+7=>exact absurd ho (by simp)
 case hend=>
  intro U W hGW hV
  have hl1:LaneIs W S lb l1:=hV 6 kd
  have hk:=hGW.one hl1
  exact Y70
theorem take8 (hQ:∀ a' w',Fr 109 a' [(0,lb),(2,.slice A n cap),(4,bx)]->Tk w0 w' S lb bx {l with next:=max l.next m.atN} m A n cap os->Q .normal a' w') :
 (part [1,1,0,0,1,1,1,0,0,1,0,1] (codeOf takeF)).wp prog Q a w:=by
 obtain⟨HT,HQ,HL,HU⟩:=J4 h hQ hL hU
 clear h hQ hL hU
 refine gg hfr fun t=>?_
 obtain⟨l1,hl1⟩:∃ l1,l1={l with next:=max l.next m.atN}:=⟨_,rfl⟩
 have HE:=J hl1
 clear hl1
 refine wp_region_all kr (fun i v W=>match i with|0=>v=lb|1=>v=lb|2=>v=lb|3=>v=.pointer (some ⟨lb,7,none⟩)|4=>v=.int .i64 l.next\/v=.int .i64 l1.next|5=>v=.pointer (some ⟨bx,11,none⟩)|6=>v=.pointer (some ⟨bx,11,none⟩)|7=>v=m.atN|8=>v=.int .i64 l1.next|9=>v=lb|10=>v=.pointer (some ⟨lb,7,none⟩)|11=>LaneIs W S lb l1|_=>True) (fun W=>Tk2 w0 W S lb bx l l1 m A n cap os) (fun W W'=>Turn lb W W'/\(LaneIs W S lb l1->LaneIs W' S lb l1)) kr ?hG ?hmono ?hstep ?hend
 case hG=>exact HT.out.drew.two
 case hmono=>
  intro i v W W' hx hv
  match i with
  | 11=>
   exact hx.2 hv
  | 0|1|2|3|4|5|6|7|8|9|10=>exact hv
  | i+12=>exact hv
 case hstep=>
  intro i o F U W ho hGW hat hoff hp
  have hrefl:=fun W:World=>(⟨Turn.refl _ _,fun h=>h⟩:Turn lb W W/\(LaneIs W S lb l1->LaneIs W S lb l1))
  match i with
   | 0=>cases ho;refine on_ (wanted_none rfl) ?_;have e0:=oo 0 lb;exact wp_move' (.tmp 0) rfl ⟨_,rfl,e0,hGW,hrefl W⟩
   | 1=>cases ho;refine on_ (wanted_none rfl) ?_;have e0:=oo 0 lb;exact wp_move' (.tmp 0) rfl ⟨_,rfl,e0,hGW,hrefl W⟩
   | 2=>
    cases ho;refine on_ (wanted_none rfl) ?_
    have e69:F.eval (.tmp 69)=.pointer (some ⟨lb,0,none⟩):=(hat 1 69 kd rfl).trans (hp ⟨1,.data⟩ (by simp) rfl:U 1=.pointer (some ⟨lb,0,none⟩))
    have t69:=act_tmp e69;clear hat hoff hp
    exact Y7
   | 3=>
    cases ho;refine on_ (wanted_none rfl) ?_
    have e70:F.eval (.tmp 70)=.pointer (some ⟨lb,0,none⟩):=(hat 2 70 kd rfl).trans (hp ⟨2,.data⟩ (by simp) rfl:U 2=.pointer (some ⟨lb,0,none⟩))
    have t70:=act_tmp e70;clear hat hoff hp
    exact Y31
   | 4=>
    cases ho;refine on_ (wanted_none rfl) ?_
    have e71:F.eval (.tmp 71)=.pointer (some ⟨lb,7,none⟩):=(hat 3 71 kd rfl).trans (hp ⟨3,.data⟩ (by simp) rfl:U 3=.pointer (some ⟨lb,7,none⟩))
    have t71:=act_tmp e71;clear hat hoff hp
    exact Y47
   | 5=>
    exact Y44
   | 6=>
    cases ho;refine on_ (wanted_none rfl) ?_
    have e73:F.eval (.tmp 73)=.pointer (some ⟨bx,11,none⟩):=(hat 5 73 kd rfl).trans (hp ⟨5,.data⟩ (by simp) rfl:U 5=.pointer (some ⟨bx,11,none⟩))
    have t73:=act_tmp e73;clear hat hoff hp
    exact wp_value' (.pointer (some ⟨bx,11,none⟩)) W (by unfold execOp;go_simp) ⟨_,rfl,rfl,hGW,hrefl W⟩
   | 7=>
    cases ho;refine on_ (wanted_none rfl) ?_
    have e74:F.eval (.tmp 74)=.pointer (some ⟨bx,11,none⟩):=(hat 6 74 kd rfl).trans (hp ⟨6,.data⟩ (by simp) rfl:U 6=.pointer (some ⟨bx,11,none⟩))
    have t74:=act_tmp e74;clear hat hoff hp;obtain⟨eA,en,ec,hA,hn',hc,oA,on,oc,pA,pn,pc,kb,ko⟩:=hGW.box;have d0:=kb.c1 11
    exact wp_value' (.int .i64 m.atN) W (by unfold execOp;go_simp) ⟨_,rfl,rfl,hGW,hrefl W⟩
   | 8=>
    cases ho;refine on_ (wanted_none rfl) ?_;have e72:=hat 4 72 kd rfl
    have v72:=hp ⟨4,.data⟩ (by simp) rfl
    have e75:F.eval (.tmp 75)=.int .i64 m.atN:=(hat 7 75 kd rfl).trans (hp ⟨7,.data⟩ (by simp) rfl:U 7=.int .i64 m.atN)
    have t75:=act_tmp e75;clear hat hoff hp
    rcases v72 with h72|h72
    ·rw [h72] at e72
     have t72:=act_tmp e72
     have q:(if m.atN > l.next then m.atN else l.next)=l1.next:=by rw [HE.out];show _=max l.next m.atN;split<;>omega
     exact wp_value' (.int .i64 (if m.atN > l.next then m.atN else l.next)) W (by unfold execOp;go_simp) ⟨_,rfl,congrArg (Value.int .i64) q,hGW,hrefl W⟩
    ·rw [h72] at e72
     have t72:=act_tmp e72
     have q:(if m.atN > l1.next then m.atN else l1.next)=l1.next:=by rw [HE.out];show (if m.atN > max l.next m.atN then m.atN else max l.next m.atN)=max l.next m.atN;split<;>omega
     exact wp_value' (.int .i64 (if m.atN > l1.next then m.atN else l1.next)) W (by unfold execOp;go_simp) ⟨_,rfl,congrArg (Value.int .i64) q,hGW,hrefl W⟩
   | 9=>
    cases ho;refine on_ (wanted_none rfl) ?_
    have e68:F.eval (.tmp 68)=.pointer (some ⟨lb,0,none⟩):=(hat 0 68 kd rfl).trans (hp ⟨0,.data⟩ (by simp) rfl:U 0=.pointer (some ⟨lb,0,none⟩))
    have t68:=act_tmp e68;clear hat hoff hp
    exact Y7
   | 10=>
    cases ho;refine on_ (wanted_none rfl) ?_
    have e77:F.eval (.tmp 77)=.pointer (some ⟨lb,0,none⟩):=(hat 9 77 kd rfl).trans (hp ⟨9,.data⟩ (by simp) rfl:U 9=.pointer (some ⟨lb,0,none⟩))
    have t77:=act_tmp e77;clear hat hoff hp
    exact Y31
   | 11=>
    cases ho;refine on_ (wanted_none rfl) ?_
    have e78:F.eval (.tmp 78)=.pointer (some ⟨lb,7,none⟩):=(hat 10 78 kd rfl).trans (hp ⟨10,.data⟩ (by simp) rfl:U 10=.pointer (some ⟨lb,7,none⟩))
    have t78:=act_tmp e78
    have e76:F.eval (.tmp 76)=.int .i64 l1.next:=(hat 8 76 kd rfl).trans (hp ⟨8,.data⟩ (by simp) rfl:U 8=.int .i64 l1.next)
    have t76:=act_tmp e76;clear hat hoff hp
    have hnew:∀ l0:LaneC,l1={l0 with next:=l1.next}->LaneIs W S lb l0->LaneIs (W.setCell ⟨lb,7,none⟩ (.int .i64 l1.next)) S lb l1:=by
     rintro l0 e0 ⟨oA,on,oc,kl,ki⟩
     have ht:=setCell_turn lb 7 (.int .i64 l1.next) W;rw [e0]
     exact⟨oA,on,oc,kl.set_ 7 _,ki.kept ⟨ht.size,fun x h1 h2=>ht.1 x h2 (by rintro rfl;exact HL.out h1)⟩⟩
    exact Y24
   | i+12=>exact absurd ho (by simp)
 case hend=>
  intro U W hGW hV
  have hl1:LaneIs W S lb l1:=hV 11 kd
  have hk:=hGW.one hl1
  exact Y70
theorem take9 (hn:n<=4294967296) (hQ:∀ a' w',Fr 109 a' [(0,lb),(2,.slice A n cap),(4,bx),(96,.bool (hasB os m.whN m.whE&&decide (l.wN<=m.whN)))]->Tk w0 w' S lb bx l m A n cap os->Q .normal a' w') :
 (part [1,1,0,0,1,1,1,0,1,0] (codeOf takeF)).wp prog Q a w:=by
 obtain⟨HT,HQ,HL,HU⟩:=J4 h hQ hL hU
 clear h hQ hL hU
 refine gg hfr fun t=>?_
 cases hh:hasB os m.whN m.whE with
 | false=>
  have HH:=J hh
  clear hh
  refine wp_region_all kr (fun i v W=>match i with|0=>v=.slice A n cap|1=>v=.pointer (some ⟨bx,13,none⟩)|2=>v=.agg #[m.whN,m.whE]|3=>∃ g,v=.slice (some ⟨g,0,none⟩) 1 1/\Blk W g 26 #[m.whN,m.whE]/\w.heap.size<=g|4=>v=.bool false|5=>v=.bool false|6=>v=undef|7=>v=undef|8=>v=undef|9=>v=undef|10=>v=undef|11=>v=undef|12=>v=undef|13=>v=undef|14=>v=undef|15=>v=undef|16=>v=undef|17=>v=.bool false|_=>True) (fun W=>Tk w0 W S lb bx l m A n cap os/\Below w w W) (fun W W'=>Below W W W') kr ?hG ?hmono ?hstep ?hend
  case hG=>exact⟨HT.out.drew,(Below.refl _ _).drew⟩
  case hmono=>
   intro i v W W' hx hv
   match i with
   | 3=>
    exact Y103
   | 0|1|2|4|5|6|7|8|9|10|11|12|13|14|15|16|17=>exact hv
   | i+18=>exact hv
  case hstep=>
   intro i o F U W ho hGW hat hoff hp
   have hrefl:=fun W:World=>Below.refl W.heap.size W
   match i with
    | 0=>cases ho;refine on_ (wanted_none rfl) ?_;have e2:=oo 2 (.slice A n cap);exact wp_move' (.tmp 2) rfl ⟨_,rfl,e2,hGW,hrefl W⟩
    | 1=>
     exact Y150
    | 2=>
     exact Y18
    | 3=>
     exact Y16
    | 4=>
     exact Y12
    | 5=>
     cases ho;refine on_ (wanted_none rfl) ?_
     have e83:F.eval (.tmp 83)=.bool false:=(hat 4 83 kd rfl).trans (hp ⟨4,.data⟩ (by simp) rfl:U 4=.bool false)
     exact wp_move' (.tmp 83) rfl ⟨_,rfl,e83,hGW,hrefl W⟩
    | 6=>
     exact Y11
    | 7=>
     exact Y11
    | 8=>
     exact Y11
    | 9=>
     exact Y11
    | 10=>
     exact Y11
    | 11=>
     exact Y11
    | 12=>
     exact Y11
    | 13=>
     exact Y11
    | 14=>
     exact Y11
    | 15=>
     exact Y11
    | 16=>
     exact Y11
    | 17=>
     cases ho;refine on_ (wanted_none rfl) ?_
     have e84:F.eval (.tmp 84)=.bool false:=(hat 5 84 kd rfl).trans (hp ⟨5,.data⟩ (by simp) rfl:U 5=.bool false)
     have t84:=act_tmp e84
     have e95:F.eval (.tmp 95)=undef:=(hat 16 95 kd rfl).trans (hp ⟨16,.data⟩ (by simp) rfl:U 16=undef)
     have t95:=act_tmp e95;clear hat hoff hp
     exact Y52
    | i+18=>exact absurd ho (by simp)
  case hend=>
   intro U W hGW hV
   have h96:U 17=.bool false:=hV 17 kd
   exact Y45
 | true=>
  have HH:=J hh
  clear hh
  by_cases hw:l.wN<=m.whN
  ·have d1:decide (l.wN<=m.whN)=true:=decide_eq_true hw
   clear hw
   refine wp_region_all kr (fun i v W=>match i with|0=>v=.slice A n cap|1=>v=.pointer (some ⟨bx,13,none⟩)|2=>v=.agg #[m.whN,m.whE]|3=>∃ g,v=.slice (some ⟨g,0,none⟩) 1 1/\Blk W g 26 #[m.whN,m.whE]/\w.heap.size<=g|4=>v=.bool true|5=>v=.bool true|6=>v=.pointer (some ⟨bx,13,none⟩)|7=>v=.pointer (some ⟨bx,13,none⟩)|8=>v=m.whN|9=>v=lb|10=>v=lb|11=>v=lb|12=>v=.pointer (some ⟨lb,2,none⟩)|13=>v=.pointer (some ⟨lb,2,none⟩)|14=>v=.pointer (some ⟨lb,2,none⟩)|15=>v=.int .i64 l.wN|16=>v=.bool true|17=>v=.bool true|_=>True) (fun W=>Tk w0 W S lb bx l m A n cap os/\Below w w W) (fun W W'=>Below W W W') kr ?hG ?hmono ?hstep ?hend
   case hG=>exact⟨HT.out.drew,(Below.refl _ _).drew⟩
   case hmono=>
    intro i v W W' hx hv
    match i with
    | 3=>
     exact Y103
    | 0|1|2|4|5|6|7|8|9|10|11|12|13|14|15|16|17=>exact hv
    | i+18=>exact hv
   case hstep=>
    intro i o F U W ho hGW hat hoff hp
    have hrefl:=fun W:World=>Below.refl W.heap.size W
    match i with
     | 0=>cases ho;refine on_ (wanted_none rfl) ?_;have e2:=oo 2 (.slice A n cap);exact wp_move' (.tmp 2) rfl ⟨_,rfl,e2,hGW,hrefl W⟩
     | 1=>
      exact Y150
     | 2=>
      exact Y18
     | 3=>
      exact Y16
     | 4=>
      exact Y12
     | 5=>
      exact Y74
     | 6=>
      cases ho
      have eg:F.eval (.tmp 84)=.bool true:=(hat 5 84 kd rfl).trans (hp ⟨5,.guard⟩ (by simp) rfl:U 5=.bool true)
      refine on_ ((wanted_by rfl rfl eg).trans rfl) ?_;have e4:=oo 4 bx;have t4:=act_tmp e4;clear hat hoff hp
      exact Y23
     | 7=>
      exact Y147
     | 8=>
      exact Y25
     | 9=>
      exact Y62
     | 10=>
      exact Y149
     | 11=>
      exact Y148
     | 12=>
      exact Y144
     | 13=>
      exact Y145
     | 14=>
      exact Y146
     | 15=>
      exact Y28
     | 16=>
      cases ho
      have eg:F.eval (.tmp 84)=.bool true:=(hat 5 84 kd rfl).trans (hp ⟨5,.guard⟩ (by simp) rfl:U 5=.bool true)
      refine on_ ((wanted_by rfl rfl eg).trans rfl) ?_
      have e87:F.eval (.tmp 87)=.int .i64 m.whN:=(hat 8 87 kd rfl).trans (hp ⟨8,.data⟩ (by simp) rfl:U 8=.int .i64 m.whN)
      have t87:=act_tmp e87
      have e94:F.eval (.tmp 94)=.int .i64 l.wN:=(hat 15 94 kd rfl).trans (hp ⟨15,.data⟩ (by simp) rfl:U 15=.int .i64 l.wN)
      have t94:=act_tmp e94;clear hat hoff hp
      exact Y98
     | 17=>
      cases ho;refine on_ (wanted_none rfl) ?_
      have e84:F.eval (.tmp 84)=.bool true:=(hat 5 84 kd rfl).trans (hp ⟨5,.data⟩ (by simp) rfl:U 5=.bool true)
      have t84:=act_tmp e84
      have e95:F.eval (.tmp 95)=.bool true:=(hat 16 95 kd rfl).trans (hp ⟨16,.data⟩ (by simp) rfl:U 16=.bool true)
      have t95:=act_tmp e95;clear hat hoff hp
      exact Y98
     | i+18=>exact absurd ho (by simp)
   case hend=>
    intro U W hGW hV
    have h96:U 17=.bool true:=hV 17 kd
    exact Y45
  ·have d1:decide (l.wN<=m.whN)=false:=decide_eq_false hw
   clear hw
   refine wp_region_all kr (fun i v W=>match i with|0=>v=.slice A n cap|1=>v=.pointer (some ⟨bx,13,none⟩)|2=>v=.agg #[m.whN,m.whE]|3=>∃ g,v=.slice (some ⟨g,0,none⟩) 1 1/\Blk W g 26 #[m.whN,m.whE]/\w.heap.size<=g|4=>v=.bool true|5=>v=.bool true|6=>v=.pointer (some ⟨bx,13,none⟩)|7=>v=.pointer (some ⟨bx,13,none⟩)|8=>v=m.whN|9=>v=lb|10=>v=lb|11=>v=lb|12=>v=.pointer (some ⟨lb,2,none⟩)|13=>v=.pointer (some ⟨lb,2,none⟩)|14=>v=.pointer (some ⟨lb,2,none⟩)|15=>v=.int .i64 l.wN|16=>v=.bool false|17=>v=.bool false|_=>True) (fun W=>Tk w0 W S lb bx l m A n cap os/\Below w w W) (fun W W'=>Below W W W') kr ?hG ?hmono ?hstep ?hend
   case hG=>exact⟨HT.out.drew,(Below.refl _ _).drew⟩
   case hmono=>
    intro i v W W' hx hv
    match i with
    | 3=>
     exact Y103
    | 0|1|2|4|5|6|7|8|9|10|11|12|13|14|15|16|17=>exact hv
    | i+18=>exact hv
   case hstep=>
    intro i o F U W ho hGW hat hoff hp
    have hrefl:=fun W:World=>Below.refl W.heap.size W
    match i with
     | 0=>cases ho;refine on_ (wanted_none rfl) ?_;have e2:=oo 2 (.slice A n cap);exact wp_move' (.tmp 2) rfl ⟨_,rfl,e2,hGW,hrefl W⟩
     | 1=>
      exact Y150
     | 2=>
      exact Y18
     | 3=>
      exact Y16
     | 4=>
      exact Y12
     | 5=>
      exact Y74
     | 6=>
      cases ho
      have eg:F.eval (.tmp 84)=.bool true:=(hat 5 84 kd rfl).trans (hp ⟨5,.guard⟩ (by simp) rfl:U 5=.bool true)
      refine on_ ((wanted_by rfl rfl eg).trans rfl) ?_;have:=ot 4 bx;clear hat hoff hp
      exact Y23
     | 7=>
      exact Y147
     | 8=>
      exact Y25
     | 9=>
      exact Y62
     | 10=>
      exact Y149
     | 11=>
      exact Y148
     | 12=>
      exact Y144
     | 13=>
      exact Y145
     | 14=>
      exact Y146
     | 15=>
      exact Y28
     | 16=>
      cases ho
      have eg:F.eval (.tmp 84)=.bool true:=(hat 5 84 kd rfl).trans (hp ⟨5,.guard⟩ (by simp) rfl:U 5=.bool true)
      refine on_ ((wanted_by rfl rfl eg).trans rfl) ?_
      have e87:F.eval (.tmp 87)=.int .i64 m.whN:=(hat 8 87 kd rfl).trans (hp ⟨8,.data⟩ (by simp) rfl:U 8=.int .i64 m.whN)
      have t87:=act_tmp e87
      have e94:F.eval (.tmp 94)=.int .i64 l.wN:=(hat 15 94 kd rfl).trans (hp ⟨15,.data⟩ (by simp) rfl:U 15=.int .i64 l.wN)
      have t94:=act_tmp e94;clear hat hoff hp
      exact Y52
     | 17=>
      cases ho;refine on_ (wanted_none rfl) ?_
      have e84:F.eval (.tmp 84)=.bool true:=(hat 5 84 kd rfl).trans (hp ⟨5,.data⟩ (by simp) rfl:U 5=.bool true)
      have t84:=act_tmp e84
      have e95:F.eval (.tmp 95)=.bool false:=(hat 16 95 kd rfl).trans (hp ⟨16,.data⟩ (by simp) rfl:U 16=.bool false)
      have t95:=act_tmp e95;clear hat hoff hp
      exact Y52
     | i+18=>exact absurd ho (by simp)
   case hend=>
    intro U W hGW hV
    have h96:U 17=.bool false:=hV 17 kd
    exact Y45
end
end
end Go.Proofs.Ytaipgdhdfpemcaa
