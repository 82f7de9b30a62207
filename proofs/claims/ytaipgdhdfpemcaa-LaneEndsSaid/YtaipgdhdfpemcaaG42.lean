/- THE WALKS OF THE LANE, part 42. -/
import Derived.Test.YtaipgdhdfpemcaaG16
import Derived.Test.YtaipgdhdfpemcaaG26
namespace Go.Proofs.Ytaipgdhdfpemcaa
set_option linter.all false
open Go.RowKit Go.Proofs.Try
set_option maxRecDepth 100000
set_option maxHeartbeats 4000000
def TakeV (lb gp b:Nat):Nat->Value->World->Prop
 | 0,v,_=>v=.pointer (some ⟨lb,0,none⟩)
 | 1,v,_=>v=.pointer (some ⟨lb,0,none⟩)
 | 2,v,_=>v=.pointer (some ⟨lb,0,none⟩)
 | 3,v,_=>v=.pointer (some ⟨lb,7,none⟩)
 | 4,v,_=>v=.int .i64 2\/v=.int .i64 0
 | 5,v,_=>v=.pointer (some ⟨lb,0,none⟩)
 | 6,v,_=>v=.pointer (some ⟨lb,0,none⟩)
 | 7,v,_=>v=.pointer (some ⟨lb,0,none⟩)
 | 8,v,_=>v=.pointer (some ⟨lb,0,none⟩)
 | 9,v,_=>v=.pointer (some ⟨lb,0,none⟩)
 | 10,v,_=>v=.int .i64 0
 | 11,v,_=>v=.slice (some ⟨gp,0,none⟩) 2 2
 | 12,v,W=>∃ ge,v=.slice (some ⟨ge,0,none⟩) 2 2/\ge≠lb/\ge<W/\W.cell? ⟨ge,0,none⟩=some (.int .i64 1)/\W.cell? ⟨ge,1,none⟩=some (.int .i64 1)
 | 13,v,_=>v=.pointer (some ⟨b,11,none⟩)
 | 14,v,_=>v=.agg #[.int .i64 0,.int .i64 0]
 | 15,v,_=>v=.int .i64 0
 | 16,v,_=>v=.int .i64 0
 | 17,v,_=>v=.int .i64 0
 | 18,v,_=>v=.pointer (some ⟨lb,0,none⟩)
 | 19,v,_=>v=.pointer (some ⟨lb,7,none⟩)
 | 20,_,W=>Blk W lb 127 (laneC 0 0 0 0 none 0 0 1 0 0)
 | _,_,_=>False
theorem take_aw (lb gp:Nat) (w:World) (hl:Blk w lb 127 (laneC 0 0 0 0 none 0 0 1 0 2)) (ho:Blk w gp 45 (opsV awOps).toArray) (hne:gp≠lb) (B:Nat) (hB:B<=lb) :
 Calls prog 28 #[.pointer (some ⟨lb,0,none⟩),.agg awAnswer,.slice (some ⟨gp,0,none⟩) 2 2] w fun x w'=>x=.returned (.int .i64 1)/\Blk w' lb 127 (laneC 0 0 0 0 none 0 0 1 0 0)/\Save lb w w'/\w.heap.size<=w'/\Below B w w':=by
 have hbl:Below w w (w.alloc (.cells awAnswer 30)):=(Below.refl _ _).alloc (Nat.le_refl _) _
 have hk:=Blk.new w 30 awAnswer
 have hl1:=hl.below hbl hl.lt
 have ho1:=ho.below hbl ho.lt
 have hlt:=hl.lt
 have HBW:=J (show B<=w by omega)
 obtain⟨HBL0,HBL,HK,HL1,HO1⟩:=J5 hB hbl hk hl1 ho1
 clear hl ho hbl hk hl1 ho1
 go_enter func28,ntmps28
 go_wp2_with fail
 refine (check10c _).mono ?_
 rintro x w1 ⟨rfl,hb1⟩
 have hk:=HK.out.below hb1 HK.out.lt
 have hl1:=HL1.out.below hb1 HL1.out.lt
 have ho1:=HO1.out.below hb1 HO1.out.lt
 have hbw:=HBL.out.trans (hb1.mono HBL.out.size)
 have c5:=hk.c1 5
 have c9:=hk.c1 9
 have l5:=hl1.c1 5
 obtain⟨RK,RL,RO,RB⟩:=J4 hk hl1 ho1 hbw
 clear hk hl1 ho1 hbw hb1
 go_wp2_with fail
 go_quiet (fail)
 go_wp2_with fail
 clear c5 c9 l5
 obtain⟨b,eb⟩:∃ b,b=w.heap.size:=⟨_,rfl⟩
 have HNB:=J (show b≠lb by omega)
 obtain⟨HNG,EB⟩:=J2 hne eb
 clear eb hne hB
 refine wp_region_stores kr (TakeV lb gp b) (fun W=>Save lb w W/\(Blk W lb 127 (laneC 0 0 0 0 none 0 0 1 0 2)\/Blk W lb 127 (laneC 0 0 0 0 none 0 0 1 0 0))/\Blk W b 30 awAnswer/\Blk W gp 45 (opsV awOps).toArray/\w.heap.size<=W/\Below B w W) (fun W W'=>Save lb W W'/\W.heap.size<=W'/\(Blk W lb 127 (laneC 0 0 0 0 none 0 0 1 0 0)->Blk W' lb 127 (laneC 0 0 0 0 none 0 0 1 0 0))) kr ?hG ?hmono ?hstep ?hend
 case hG=>
  rw [EB.out]
  exact⟨fun b h _=>RB.out.block b h,Or.inl RL.out,RK.out,RO.out,RB.out.size,⟨(RB.out.mono HBW.out).os,(RB.out.mono HBW.out).tape,(RB.out.mono HBW.out).output,(RB.out.mono HBW.out).size,(RB.out.mono HBW.out).block⟩⟩
 case hmono=>
  intro i v W W' hx hv
  match i with
  | 20=>exact hx.2.2 hv
  | 12=>
   obtain⟨ge,h1,h2,h3,h4,h5⟩:=hv
   refine⟨ge,h1,h2,Nat.lt_of_lt_of_le h3 hx.2.1,?_,?_⟩
   ·rw [<-h4];exact World.cell?_of_block (hx.1 ge h3 h2)
   ·rw [<-h5];exact World.cell?_of_block (hx.1 ge h3 h2)
  | 0|1|2|3|4|5|6|7|8|9|10|11|13|14|15|16|17|18|19=>exact hv
  | i+21=>exact hv
 case hstep=>
  intro i o F U W ho hGW hat hoff hp
  have hrefl:=fun W:World=>(⟨fun _ _ _=>rfl,Nat.le_refl _,fun h=>h⟩:Save lb W W/\W.heap.size<=W/\(Blk W lb 127 (laneC 0 0 0 0 none 0 0 1 0 0)->Blk W lb 127 (laneC 0 0 0 0 none 0 0 1 0 0)))
  match i with
  | 0=>cases ho;exact wp_move' (.tmp 0) rfl ⟨_,rfl,(hoff 0 kd).trans rfl,hGW,hrefl W⟩
  | 1=>cases ho;exact wp_move' (.tmp 0) rfl ⟨_,rfl,(hoff 0 kd).trans rfl,hGW,hrefl W⟩
  | 2=>
   cases ho
   have hv1:TakeV lb gp b 1 (U 1) W:=hp ⟨1,.data⟩ (by simp) rfl
   have ht1:=act_tmp (hat 1 20 kd rfl);have hrb4:=ow 4 EB;clear hat hoff hp;rw [hv1] at ht1
   exact Y7
  | 3=>
   cases ho
   have hv2:TakeV lb gp b 2 (U 2) W:=hp ⟨2,.data⟩ (by simp) rfl
   have ht2:=act_tmp (hat 2 21 kd rfl);have hrb4:=ow 4 EB;clear hat hoff hp;rw [hv2] at ht2
   exact Y31
  | 4=>
   cases ho
   have hv3:TakeV lb gp b 3 (U 3) W:=hp ⟨3,.data⟩ (by simp) rfl
   have ht3:=act_tmp (hat 3 22 kd rfl);have hrb4:=ow 4 EB;clear hat hoff hp;rw [hv3] at ht3
   rcases hGW.2.1 with h|h
   ·have hc:=h.c1 7
    exact wp_value' (.int .i64 2) W (by unfold execOp;go_simp) ⟨_,rfl,Or.inl rfl,hGW,hrefl W⟩
   ·have hc:=h.c1 7
    exact wp_value' (.int .i64 0) W (by unfold execOp;go_simp) ⟨_,rfl,Or.inr rfl,hGW,hrefl W⟩
  | 5=>cases ho;exact wp_move' (.tmp 0) rfl ⟨_,rfl,(hoff 0 kd).trans rfl,hGW,hrefl W⟩
  | 6=>
   cases ho
   have hv5:TakeV lb gp b 5 (U 5) W:=hp ⟨5,.data⟩ (by simp) rfl
   have ht5:=act_tmp (hat 5 24 kd rfl);have hrb4:=ow 4 EB;clear hat hoff hp;rw [hv5] at ht5
   exact Y7
  | 7=>
   cases ho
   have hv6:TakeV lb gp b 6 (U 6) W:=hp ⟨6,.data⟩ (by simp) rfl
   have ht6:=act_tmp (hat 6 25 kd rfl);have hrb4:=ow 4 EB;clear hat hoff hp;rw [hv6] at ht6
   exact Y7
  | 8=>
   cases ho
   have hv7:TakeV lb gp b 7 (U 7) W:=hp ⟨7,.data⟩ (by simp) rfl
   have ht7:=act_tmp (hat 7 26 kd rfl);have hrb4:=ow 4 EB;clear hat hoff hp;rw [hv7] at ht7
   exact Y7
  | 9=>
   cases ho
   have hv8:TakeV lb gp b 8 (U 8) W:=hp ⟨8,.data⟩ (by simp) rfl
   have ht8:=act_tmp (hat 8 27 kd rfl);have hrb4:=ow 4 EB;clear hat hoff hp;rw [hv8] at ht8
   exact Y7
  | 10=>
   cases ho
   have hv9:TakeV lb gp b 9 (U 9) W:=hp ⟨9,.data⟩ (by simp) rfl
   have ht9:=act_tmp (hat 9 28 kd rfl);have hrb4:=ow 4 EB;clear hat hoff hp;rw [hv9] at ht9
   have hc:W.cell? ⟨lb,0,none⟩=some (.int .i64 0):=by rcases hGW.2.1 with h|h<;>(rw [h.cell 0];rfl)
   exact wp_value' (.int .i64 0) W (by unfold execOp;go_simp) ⟨_,rfl,rfl,hGW,hrefl W⟩
  | 11=>cases ho;exact wp_move' (.tmp 2) rfl ⟨_,rfl,(hoff 2 kd).trans rfl,hGW,hrefl W⟩
  | 12=>
   cases ho
   have hv11:TakeV lb gp b 11 (U 11) W:=hp ⟨11,.data⟩ (by simp) rfl
   have ht11:=act_tmp (hat 11 30 kd rfl);have hrb4:=ow 4 EB;clear hat hoff hp;rw [hv11] at ht11
   refine wp_enter' 56 #[.slice (some ⟨gp,0,none⟩) 2 2] (by unfold execOp;go_simp) ?_
   refine (epochs_any (some ⟨gp,0,none⟩) 2 2 awOps W (aw_reads hGW.2.2.2.1) (by omega)).mono ?_
   rintro e W' ⟨ge,rfl,hre,hb⟩
   obtain⟨ad,e1,hlt,hcs⟩:=hre.2 (by omega)
   injection e1 with e1
   subst e1;have q0:=hcs 0 (.int .i64 1) rfl;have q1:=hcs 1 (.int .i64 1) rfl;have q0':W'.cell? ⟨ge,0,none⟩=some (.int .i64 1):=q0;have q1':W'.cell? ⟨ge,1,none⟩=some (.int .i64 1):=q1
   have hne:ge≠lb:=by
    intro e
    have hc:W'.cell? ⟨lb,0,none⟩=some (.int .i64 0):=by rcases hGW.2.1 with h|h<;>(rw [(h.below hb h.lt).cell 0];rfl)
    rw [e,hc] at q0';simp at q0'
   exact⟨_,rfl,_,rfl,⟨ge,rfl,hne,hlt,q0',q1'⟩,⟨hGW.1.below hGW.2.2.2.2.1 hb,(by rcases hGW.2.1 with h|h;exact Or.inl (h.below hb h.lt);exact Or.inr (h.below hb h.lt)),hGW.2.2.1.below hb hGW.2.2.1.lt,hGW.2.2.2.1.below hb hGW.2.2.2.1.lt,Nat.le_trans hGW.2.2.2.2.1 hb.size,hGW.2.2.2.2.2.trans (hb.mono (Nat.le_trans HBW.out hGW.2.2.2.2.1))⟩,Save.of hb,hb.size,fun h=>h.below hb h.lt⟩
  | 13=>
   cases ho;have hrb4:=ow 4 EB;clear hat hoff hp;have hx:=act_tmp hrb4
   exact wp_value' (.pointer (some ⟨b,11,none⟩)) W (by unfold execOp;go_simp) ⟨_,rfl,rfl,hGW,hrefl W⟩
  | 14=>
   cases ho
   have hv13:TakeV lb gp b 13 (U 13) W:=hp ⟨13,.data⟩ (by simp) rfl
   have ht13:=act_tmp (hat 13 32 kd rfl);have hrb4:=ow 4 EB;clear hat hoff hp;rw [hv13] at ht13;obtain⟨hc,hd⟩:=hGW.2.2.1.cs 11 2
   exact Y57
  | 15=>
   cases ho
   have hv12:TakeV lb gp b 12 (U 12) W:=hp ⟨12,.data⟩ (by simp) rfl
   have ht12:=act_tmp (hat 12 31 kd rfl)
   have hv14:TakeV lb gp b 14 (U 14) W:=hp ⟨14,.data⟩ (by simp) rfl
   have ht14:=act_tmp (hat 14 33 kd rfl);have hrb4:=ow 4 EB;clear hat hoff hp;obtain⟨ge,hge,hne,hlt,q0,q1⟩:=hv12;rw [hge] at ht12;rw [hv14] at ht14
   refine wp_enter' 79 #[.slice (some ⟨ge,0,none⟩) 2 2,.agg #[.int .i64 0,.int .i64 0]] (by unfold execOp;go_simp) ?_
   have hre:Reads W W.heap.size 1 (some ⟨ge,0,none⟩) 2 (intV .i64 [1,1]):=by
    refine⟨rfl,fun _=>⟨_,rfl,hlt,fun j u hu=>?_⟩⟩
    match j with
    | 0=>rw [show (⟨ge,0,none⟩:Addr).add 0=⟨ge,0,none⟩ from rfl,q0];exact hu
    | 1=>rw [show (⟨ge,0,none⟩:Addr).add 1=⟨ge,1,none⟩ from rfl,q1];exact hu
    | j+2=>simp [intV] at hu
   refine (next_any (some ⟨ge,0,none⟩) 2 2 [1,1] W hre (by unfold maxLen;omega) 0 0 (by omega)).mono ?_
   rintro e W' ⟨rfl,hb⟩
   exact⟨_,rfl,_,rfl,rfl,⟨hGW.1.below hGW.2.2.2.2.1 hb,(by rcases hGW.2.1 with h|h;exact Or.inl (h.below hb h.lt);exact Or.inr (h.below hb h.lt)),hGW.2.2.1.below hb hGW.2.2.1.lt,hGW.2.2.2.1.below hb hGW.2.2.2.1.lt,Nat.le_trans hGW.2.2.2.2.1 hb.size,hGW.2.2.2.2.2.trans (hb.mono (Nat.le_trans HBW.out hGW.2.2.2.2.1))⟩,Save.of hb,hb.size,fun h=>h.below hb h.lt⟩
  | 16=>
   cases ho
   have hv10:TakeV lb gp b 10 (U 10) W:=hp ⟨10,.data⟩ (by simp) rfl
   have ht10:=act_tmp (hat 10 29 kd rfl)
   have hv15:TakeV lb gp b 15 (U 15) W:=hp ⟨15,.data⟩ (by simp) rfl
   have ht15:=act_tmp (hat 15 34 kd rfl);have hrb4:=ow 4 EB;clear hat hoff hp;rw [hv10] at ht10;rw [hv15] at ht15
   exact Y39
  | 17=>
   cases ho
   have hv4:TakeV lb gp b 4 (U 4) W:=hp ⟨4,.data⟩ (by simp) rfl
   have ht4:=act_tmp (hat 4 23 kd rfl)
   have hv16:TakeV lb gp b 16 (U 16) W:=hp ⟨16,.data⟩ (by simp) rfl
   have ht16:=act_tmp (hat 16 35 kd rfl);have hrb4:=ow 4 EB;clear hat hoff hp;rw [hv16] at ht16
   rcases hv4 with hv4|hv4
   ·rw [hv4] at ht4
    exact Y39
   ·rw [hv4] at ht4
    exact Y39
  | 18=>
   cases ho
   have hv0:TakeV lb gp b 0 (U 0) W:=hp ⟨0,.data⟩ (by simp) rfl
   have ht0:=act_tmp (hat 0 19 kd rfl);have hrb4:=ow 4 EB;clear hat hoff hp;rw [hv0] at ht0
   exact Y7
  | 19=>
   cases ho
   have hv18:TakeV lb gp b 18 (U 18) W:=hp ⟨18,.data⟩ (by simp) rfl
   have ht18:=act_tmp (hat 18 37 kd rfl);have hrb4:=ow 4 EB;clear hat hoff hp;rw [hv18] at ht18
   exact Y31
  | 20=>
   cases ho
   have hv17:TakeV lb gp b 17 (U 17) W:=hp ⟨17,.data⟩ (by simp) rfl
   have ht17:=act_tmp (hat 17 36 kd rfl)
   have hv19:TakeV lb gp b 19 (U 19) W:=hp ⟨19,.data⟩ (by simp) rfl
   have ht19:=act_tmp (hat 19 38 kd rfl);have hrb4:=ow 4 EB;clear hat hoff hp;rw [hv17] at ht17;rw [hv19] at ht19
   have f7:W.frozen? ⟨lb,7,none⟩=false:=by rcases hGW.2.1 with h|h<;>exact h.frozen 7
   obtain⟨nx,hc⟩:∃ nx,W.cell? ⟨lb,7,none⟩=some (.int .i64 nx):=by rcases hGW.2.1 with h|h<;>exact⟨_,h.cell 7⟩
   have hnew:Blk (W.setCell ⟨lb,7,none⟩ (.int .i64 0)) lb 127 (laneC 0 0 0 0 none 0 0 1 0 0):=by rcases hGW.2.1 with h|h<;>exact h.set_ 7 _
   have hsv:Save lb W (W.setCell ⟨lb,7,none⟩ (.int .i64 0)):=fun x _ h2=>Below.heap_setCell W ⟨lb,7,none⟩ _ x h2
   refine wp_skip' (W.setCell ⟨lb,7,none⟩ (.int .i64 0)) (by unfold execOp;go_simp) ?_
   exact⟨_,rfl,hnew,⟨hGW.1.trans hGW.2.2.2.2.1 hsv,Or.inr hnew,hsv.blk hGW.2.2.1 HNB.out,hsv.blk hGW.2.2.2.1 HNG.out,by rw [setCell_size];exact hGW.2.2.2.2.1,hGW.2.2.2.2.2.setCell (p:=⟨lb,7,none⟩) HBL0.out _⟩,hsv,by rw [setCell_size];exact Nat.le_refl _,fun _=>hnew⟩
  | i+21=>exact absurd ho (by simp)
 case hend=>
  intro U W hGW hV
  have h20:Blk W lb 127 (laneC 0 0 0 0 none 0 0 1 0 0):=hV 20 kd
  have hk:=hGW.2.2.1
  rw [EB.out] at hk
  have c9:=hk.c1 9
  obtain⟨H20,HS,HZ⟩:=J3 h20 hGW.1 hGW.2.2.2.2
  clear hV hGW hk h20
  simp [putU,dstAt,Act.put]
  go_wp2
  go_ret
  exact⟨rfl,H20.out,HS.out,HZ.out.1,HZ.out.2⟩
theorem next_aw (lb:Nat) (w:World) (hl:Blk w lb 127 (laneC 0 0 0 0 none 0 0 1 0 0)):Calls prog 33 #[.pointer (some ⟨lb,0,none⟩)] w fun x w'=>x=.returned (.int .i64 0)/\w'=w:=by
 have c7:=hl.c1 7
 clear hl
 go_enter func33,ntmps33
 exact Y154
def OfferV0 (lb gp rb:Nat):Nat->Value->World->Prop
 | 0,v,_=>v=.pointer (some ⟨lb,0,none⟩)
 | 1,v,_=>v=.pointer (some ⟨lb,0,none⟩)
 | 2,v,_=>v=.pointer (some ⟨lb,5,none⟩)
 | 3,v,_=>v=.int .i64 1
 | 4,v,_=>v=.pointer (some ⟨lb,0,none⟩)
 | 5,v,_=>v=.pointer (some ⟨lb,0,none⟩)
 | 6,v,_=>v=.pointer (some ⟨lb,6,none⟩)
 | 7,v,_=>v=.int .i64 0
 | 8,v,_=>v=.agg #[.int .i64 0,.int .i64 0]
 | 9,v,_=>v=.slice (some ⟨gp,0,none⟩) 2 2
 | 10,v,_=>v=.int .i64 0
 | 11,v,_=>v=.slice (some ⟨gp,0,none⟩) 0 2
 | 12,v,_=>v=.agg #[.int .i64 0,.int .i64 0]
 | 13,v,_=>v=.slice (some ⟨gp,0,none⟩) 2 2
 | 14,v,_=>v=.int .i64 0
 | 15,v,_=>v=.slice (some ⟨gp,0,none⟩) 2 2
 | 16,v,_=>v=.int .i64 2
 | 17,v,_=>v=.int .i64 0
 | 18,v,_=>v=.int .i64 8
 | 19,v,_=>v=.int .i64 2
 | 20,v,_=>v=.slice (some ⟨gp,0,none⟩) 2 2
 | 21,v,_=>∃ g c',v=.slice (some ⟨g,0,none⟩) 2 c'
 | 22,v,_=>∃ g c',v=.agg (mailC 9 0 0 0 0 false none 0 0 ⟨#[]⟩ none 0 0 1 0 0 0 0 0 none 0 0 (some ⟨g,0,none⟩) 2 c')
 | 23,_,W=>∃ g c',Blk W rb 30 (mailC 9 0 0 0 0 false none 0 0 ⟨#[]⟩ none 0 0 1 0 0 0 0 0 none 0 0 (some ⟨g,0,none⟩) 2 c')
 | _,_,_=>False
theorem offer0 (lb gp:Nat) (mN mE wN wE:Int) (oA:O) (on oc:Nat) (w:World) (hl:Blk w lb 127 (laneC mN mE wN wE oA on oc 1 0 0)) (ho:Blk w gp 45 (opsV awOps).toArray) :
 Calls prog 26 #[.pointer (some ⟨lb,0,none⟩),.slice (some ⟨gp,0,none⟩) 2 2] w fun x w'=>(∃ g c',x=.returned (.agg (mailC 9 0 0 0 0 false none 0 0 ⟨#[]⟩ none 0 0 1 0 0 0 0 0 none 0 0 (some ⟨g,0,none⟩) 2 c')))/\Below w w w':=by
 have hr:=aw_reads ho
 have HR0:=J (hr.head (k:=0) (by omega))
 obtain⟨HR2,HD0⟩:=J2 hr hr
 have HD2:=J (reads_none w w.heap.size 9 (some ⟨gp,0,none⟩))
 have HL:=J hl
 have c7:=(hl.alloc (.cells (mailC 0 0 0 0 0 false none 0 0 ⟨#[]⟩ none 0 0 0 0 0 0 0 0 none 0 0 none 0 0) 30)).cell 7
 simp at c7
 have hbl:Below w w (w.alloc (.cells (mailC 0 0 0 0 0 false none 0 0 ⟨#[]⟩ none 0 0 0 0 0 0 0 0 none 0 0 none 0 0) 30)):=(Below.refl _ _).alloc (Nat.le_refl _) _
 have HBL:=J hbl
 clear hl ho hr hbl
 go_enter func26,ntmps26
 go_wp2_with fail
 obtain⟨rb,hrb⟩:∃ rb,rb=w.heap.size:=⟨_,rfl⟩
 have HRB:=J hrb
 clear hrb
 refine wp_region_stores kr (OfferV0 lb gp rb) (fun W=>Below w w W/\w.heap.size<W/\Cells17 W rb) (fun W W'=>Save rb W W'/\W.heap.size<=W'/\((∃ g c',Blk W rb 30 (mailC 9 0 0 0 0 false none 0 0 ⟨#[]⟩ none 0 0 1 0 0 0 0 0 none 0 0 (some ⟨g,0,none⟩) 2 c'))->∃ g c',Blk W' rb 30 (mailC 9 0 0 0 0 false none 0 0 ⟨#[]⟩ none 0 0 1 0 0 0 0 0 none 0 0 (some ⟨g,0,none⟩) 2 c'))) kr ?hG ?hmono ?hstep ?hend
 case hG=>exact⟨HBL.out.drew,by show w.heap.size<(w.alloc _).heap.size;simp,by rw [HRB.out];exact⟨_,_,_,_,_,_,_,_,_,_,_,_,_,_,_,_,_,(Blk.new w _ _).drew⟩⟩
 case hmono=>
  intro i v W W' hx hv
  match i with
  | 23=>exact hx.2.2 hv
  | 0|1|2|3|4|5|6|7|8|9|10|11|12|13|14|15|16|17|18|19|20|21|22=>exact hv
  | i+24=>exact hv
 case hstep=>
  intro i o F U W ho hGW hat hoff hp
  have hrefl:=fun W:World=>(⟨fun _ _ _=>rfl,Nat.le_refl _,fun h=>h⟩:Save rb W W/\W.heap.size<=W/\((∃ g c',Blk W rb 30 (mailC 9 0 0 0 0 false none 0 0 ⟨#[]⟩ none 0 0 1 0 0 0 0 0 none 0 0 (some ⟨g,0,none⟩) 2 c'))->∃ g c',Blk W rb 30 (mailC 9 0 0 0 0 false none 0 0 ⟨#[]⟩ none 0 0 1 0 0 0 0 0 none 0 0 (some ⟨g,0,none⟩) 2 c')))
  match i with
  | 0=>cases ho;exact wp_move' (.tmp 0) rfl ⟨_,rfl,(hoff 0 kd).trans rfl,hGW,hrefl W⟩
  | 1=>
   cases ho
   have hv0:OfferV0 lb gp rb 0 (U 0) W:=hp ⟨0,.data⟩ (by simp) rfl
   have ht0:=act_tmp (hat 0 16 kd rfl);clear hat hoff hp;rw [hv0] at ht0
   exact Y7
  | 2=>
   cases ho
   have hv1:OfferV0 lb gp rb 1 (U 1) W:=hp ⟨1,.data⟩ (by simp) rfl
   have ht1:=act_tmp (hat 1 17 kd rfl);clear hat hoff hp;rw [hv1] at ht1
   exact Y38
  | 3=>
   cases ho
   have hv2:OfferV0 lb gp rb 2 (U 2) W:=hp ⟨2,.data⟩ (by simp) rfl
   exact Y159
  | 4=>cases ho;exact wp_move' (.tmp 0) rfl ⟨_,rfl,(hoff 0 kd).trans rfl,hGW,hrefl W⟩
  | 5=>
   cases ho
   have hv4:OfferV0 lb gp rb 4 (U 4) W:=hp ⟨4,.data⟩ (by simp) rfl
   have ht4:=act_tmp (hat 4 20 kd rfl);clear hat hoff hp;rw [hv4] at ht4
   exact Y7
  | 6=>
   cases ho
   have hv5:OfferV0 lb gp rb 5 (U 5) W:=hp ⟨5,.data⟩ (by simp) rfl
   have ht5:=act_tmp (hat 5 21 kd rfl);clear hat hoff hp;rw [hv5] at ht5
   exact Y80
  | 7=>
   cases ho
   have hv6:OfferV0 lb gp rb 6 (U 6) W:=hp ⟨6,.data⟩ (by simp) rfl
   exact Y160
  | 8=>
   cases ho;clear hat hoff hp
   exact Y57
  | 9=>cases ho;exact wp_move' (.tmp 1) rfl ⟨_,rfl,(hoff 1 kd).trans rfl,hGW,hrefl W⟩
  | 10=>cases ho;exact wp_move' (.tmp 5) rfl ⟨_,rfl,(hoff 5 kd).trans rfl,hGW,hrefl W⟩
  | 11=>
   cases ho
   have hv9:OfferV0 lb gp rb 9 (U 9) W:=hp ⟨9,.data⟩ (by simp) rfl
   have ht9:=act_tmp (hat 9 25 kd rfl)
   have hv10:OfferV0 lb gp rb 10 (U 10) W:=hp ⟨10,.data⟩ (by simp) rfl
   have ht10:=act_tmp (hat 10 26 kd rfl);clear hat hoff hp;rw [hv9] at ht9;rw [hv10] at ht10
   exact wp_value' (.slice (some ⟨gp,0,none⟩) 0 2) W (by unfold execOp;go_simp) ⟨_,rfl,rfl,hGW,hrefl W⟩
  | 12=>
   cases ho
   have hv8:OfferV0 lb gp rb 8 (U 8) W:=hp ⟨8,.data⟩ (by simp) rfl
   have ht8:=act_tmp (hat 8 24 kd rfl)
   have hv11:OfferV0 lb gp rb 11 (U 11) W:=hp ⟨11,.data⟩ (by simp) rfl
   have ht11:=act_tmp (hat 11 27 kd rfl);clear hat hoff hp;rw [hv8] at ht8;rw [hv11] at ht11
   refine wp_enter' 60 #[.agg #[.int .i64 0,.int .i64 0],.slice (some ⟨gp,0,none⟩) 0 2] (by unfold execOp;go_simp) ?_
   refine (last_any 0 0 (some ⟨gp,0,none⟩) 0 2 (awOps.take 0) W (((HR0.out).below hGW.1).more hGW.1.size) (by omega)).mono ?_
   exact Y76
  | 13=>cases ho;exact wp_move' (.tmp 1) rfl ⟨_,rfl,(hoff 1 kd).trans rfl,hGW,hrefl W⟩
  | 14=>cases ho;exact wp_move' (.tmp 5) rfl ⟨_,rfl,(hoff 5 kd).trans rfl,hGW,hrefl W⟩
  | 15=>cases ho;exact wp_move' (.tmp 1) rfl ⟨_,rfl,(hoff 1 kd).trans rfl,hGW,hrefl W⟩
  | 16=>
   cases ho
   have hv15:OfferV0 lb gp rb 15 (U 15) W:=hp ⟨15,.data⟩ (by simp) rfl
   have ht15:=act_tmp (hat 15 31 kd rfl);clear hat hoff hp;rw [hv15] at ht15
   exact Y53
  | 17=>cases ho;exact wp_move' (.tmp 5) rfl ⟨_,rfl,(hoff 5 kd).trans rfl,hGW,hrefl W⟩
  | 18=>
   cases ho
   have hv17:OfferV0 lb gp rb 17 (U 17) W:=hp ⟨17,.data⟩ (by simp) rfl
   have ht17:=act_tmp (hat 17 33 kd rfl);clear hat hoff hp;rw [hv17] at ht17
   exact wp_value' (.int .i64 8) W (by unfold execOp;go_simp;first|done|decide) ⟨_,rfl,rfl,hGW,hrefl W⟩
  | 19=>
   cases ho
   have hv16:OfferV0 lb gp rb 16 (U 16) W:=hp ⟨16,.data⟩ (by simp) rfl
   have ht16:=act_tmp (hat 16 32 kd rfl)
   have hv18:OfferV0 lb gp rb 18 (U 18) W:=hp ⟨18,.data⟩ (by simp) rfl
   exact Y164
  | 20=>
   cases ho
   have hv13:OfferV0 lb gp rb 13 (U 13) W:=hp ⟨13,.data⟩ (by simp) rfl
   have ht13:=act_tmp (hat 13 29 kd rfl)
   have hv14:OfferV0 lb gp rb 14 (U 14) W:=hp ⟨14,.data⟩ (by simp) rfl
   have ht14:=act_tmp (hat 14 30 kd rfl)
   have hv19:OfferV0 lb gp rb 19 (U 19) W:=hp ⟨19,.data⟩ (by simp) rfl
   have ht19:=act_tmp (hat 19 35 kd rfl);clear hat hoff hp;rw [hv13] at ht13;rw [hv14] at ht14;rw [hv19] at ht19
   exact Y121
  | 21=>
   cases ho
   have hv20:OfferV0 lb gp rb 20 (U 20) W:=hp ⟨20,.data⟩ (by simp) rfl
   have ht20:=act_tmp (hat 20 36 kd rfl);clear hat hoff hp;rw [hv20] at ht20
   refine wp_enter' 62 #[.slice (some ⟨gp,0,none⟩) 2 2] (by unfold execOp;go_simp) ?_
   refine (copied_bare ⟨gp,0,none⟩ 2 2 (awOps.drop 0) W (((HD0.out).below hGW.1).more hGW.1.size) (by omega) (fun o ho=>awOps_bare o (List.mem_of_mem_drop ho))).mono ?_
   exact Y65
  | 22=>
   cases ho
   have hv3:OfferV0 lb gp rb 3 (U 3) W:=hp ⟨3,.data⟩ (by simp) rfl
   have ht3:=act_tmp (hat 3 19 kd rfl)
   have hv7:OfferV0 lb gp rb 7 (U 7) W:=hp ⟨7,.data⟩ (by simp) rfl
   have ht7:=act_tmp (hat 7 23 kd rfl)
   have hv12:OfferV0 lb gp rb 12 (U 12) W:=hp ⟨12,.data⟩ (by simp) rfl
   have ht12:=act_tmp (hat 12 28 kd rfl)
   have hv21:OfferV0 lb gp rb 21 (U 21) W:=hp ⟨21,.data⟩ (by simp) rfl
   have ht21:=act_tmp (hat 21 37 kd rfl);clear hat hoff hp;obtain⟨g,c',hg⟩:=hv21;rw [hv3] at ht3;rw [hv7] at ht7;rw [hv12] at ht12;rw [hg] at ht21
   exact wp_value' (.agg (mailC 9 0 0 0 0 false none 0 0 ⟨#[]⟩ none 0 0 1 0 0 0 0 0 none 0 0 (some ⟨g,0,none⟩) 2 c')) W (by unfold execOp;go_simp) ⟨_,rfl,⟨g,c',rfl⟩,hGW,hrefl W⟩
  | 23=>
   cases ho
   have hv22:OfferV0 lb gp rb 22 (U 22) W:=hp ⟨22,.data⟩ (by simp) rfl
   have ht22:=act_tmp (hat 22 38 kd rfl);have hrb4:=ow 4 HRB;clear hat hoff hp;obtain⟨g,c',hg⟩:=hv22;rw [hg] at ht22;have hrbt:=act_tmp (hrb4);obtain⟨a0,a1,a2,a3,a4,a5,a6,a7,a8,a9,a10,a11,a12,a13,a14,a15,a16,hbk⟩:=hGW.2.2;have f0:=hbk.frozen;obtain⟨d0,d1,d2,d3,d4,d5,d6,d7,d8,d9,d10,d11,d12,d13,d14,d15,d16⟩:=hbk.cs 0 17
   refine wp_skip' (putCells W rb 0 (mailC 9 0 0 0 0 false none 0 0 ⟨#[]⟩ none 0 0 1 0 0 0 0 0 none 0 0 (some ⟨g,0,none⟩) 2 c').toList) (by unfold execOp;go_simp;rfl) ?_
   exact⟨_,rfl,⟨g,c',putCells_blk hbk rfl⟩,⟨putCells_below (by rw [HRB.out];exact Nat.le_refl _) _ _ _ _ hGW.1,by rw [putCells_size];exact hGW.2.1,⟨_,_,_,_,_,_,_,_,_,_,_,_,_,_,_,_,_,putCells_blk (l:=(mailC 9 0 0 0 0 false none 0 0 ⟨#[]⟩ none 0 0 1 0 0 0 0 0 none 0 0 (some ⟨g,0,none⟩) 2 c').toList) hbk rfl⟩⟩,putCells_save _ _ _ _,by rw [putCells_size];exact Nat.le_refl _,fun _=>⟨g,c',putCells_blk hbk rfl⟩⟩
  | i+24=>exact absurd ho (by simp)
 case hend=>
  intro U W hGW hV
  have h23:=hV 23 kd
  obtain⟨g,c',hbk⟩:=h23
  obtain⟨HK,HW⟩:=J2 hbk hGW.1
  have hrb:=HRB.out
  clear hV hGW hbk
  simp [putU,dstAt,Act.put,Exit.then]
  go_wp2
  have hk:=HK.out
  rw [HRB.out] at hk
  obtain⟨e0,e1,e2,e3,e4,e5,e6,e7,e8,e9,e10,e11,e12,e13,e14,e15,e16⟩:=hk.cs 0 17
  refine bodyPost_ret (v:=.agg (mailC 9 0 0 0 0 false none 0 0 ⟨#[]⟩ none 0 0 1 0 0 0 0 0 none 0 0 (some ⟨g,0,none⟩) 2 c')) (by simp [results,results26,e0,e1,e2,e3,e4,e5,e6,e7,e8,e9,e10,e11,e12,e13,e14,e15,e16,go_sem]) rfl ?_
  exact⟨⟨g,c',rfl⟩,HW.out⟩
end Go.Proofs.Ytaipgdhdfpemcaa
