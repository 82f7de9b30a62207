/- THE WALKS OF THE LANE, part 27. -/
import Derived.Test.YtaipgdhdfpemcaaG10
import Derived.Test.YtaipgdhdfpemcaaG16
import Derived.Test.YtaipgdhdfpemcaaG25
import Derived.Test.YtaipgdhdfpemcaaG26
namespace Go.Proofs.Ytaipgdhdfpemcaa
set_option linter.all false
open Go.RowKit Go.Proofs.Try
set_option maxRecDepth 100000
set_option maxHeartbeats 4000000
theorem has_aw (g:Nat) (w:World) (h:Blk w g 26 #[.int .i64 2,.int .i64 1]) :
 Calls prog 54 #[.slice none 0 0,.slice (some ⟨g,0,none⟩) 1 1] w fun x w'=>x=.returned (.bool false)/\Below w w w':=by
 obtain⟨hc0,hc1⟩:=h.cs 0 2
 clear h
 go_enter func54,ntmps54
 go_wp2_with fail
 go_loopw [9] (fun i wr=>i=.int .i64 0/\wr=w) (fun _ _=>0)
 case atStart=>exact⟨rfl,rfl⟩
 case round=>
  obtain⟨rfl,rfl⟩:=hrel
  exact Y114
@[reducible] def noMail:Array Value:=mailC 0 0 0 0 0 false none 0 0 ⟨#[]⟩ none 0 0 0 0 0 0 0 0 none 0 0 none 0 0
@[reducible] def noCmd:Array Value:=#[.int .i64 0,.int .i64 0,.int .i64 0,.int .i64 0,.int .i64 0,.int .i64 0,.int .i64 0,.int .i64 0,.int .i64 0,.string ⟨#[]⟩,.int .i64 0,.slice none 0 0,.int .i64 0,.int .i64 0,.slice none 0 0,.int .i64 0]
def Cells16 (W:World) (rb:Nat):Prop:=∃ a0 a1 a2 a3 a4 a5 a6 a7 a8 a9 a10 a11 a12 a13 a14 a15,Blk W rb 47 #[a0,a1,a2,a3,a4,a5,a6,a7,a8,a9,a10,a11,a12,a13,a14,a15]
theorem cells16_below {W W':World} {rb:Nat} (h:Cells16 W rb) (hb:Below W W W'):Cells16 W' rb:=by
 obtain⟨a0,a1,a2,a3,a4,a5,a6,a7,a8,a9,a10,a11,a12,a13,a14,a15,h⟩:=h
 exact⟨_,_,_,_,_,_,_,_,_,_,_,_,_,_,_,_,h.below hb h.lt⟩
def MeetV (b4 b6 b7 gp pc:Nat):Nat->Value->World->Prop
 | 0,v,_=>v=.agg noMail
 | 1,v,_=>v=.pointer (some ⟨b4,9,none⟩)
 | 2,v,_=>v=.int .i64 1
 | 3,v,_=>v=.pointer (some ⟨b4,10,none⟩)
 | 4,v,_=>v=.int .i64 0
 | 5,v,_=>v=.pointer (some ⟨b4,11,none⟩)
 | 6,v,_=>v=.pointer (some ⟨b4,11,none⟩)
 | 7,v,_=>v=.int .i64 2
 | 8,v,_=>v=.pointer (some ⟨b4,11,none⟩)
 | 9,v,_=>v=.pointer (some ⟨b4,12,none⟩)
 | 10,v,_=>v=.int .i64 1
 | 11,v,_=>v=.pointer (some ⟨b4,16,none⟩)
 | 12,v,_=>v=.slice (some ⟨gp,0,none⟩) 0 pc
 | 13,v,_=>∃ g' c',v=.slice (some ⟨g',0,none⟩) 0 c'
 | 14,v,_=>∃ g' c',v=.agg (awCmd ⟨g',0,none⟩ c')
 | 15,_,W=>Blk W b6 30 noMail
 | 16,_,W=>∃ g' c',Blk W b7 47 (awCmd ⟨g',0,none⟩ c')
 | 17,v,_=>v=.int .i64 2
 | _,_,_=>False
theorem meet1 (g gp pc:Nat) (w:World) (h:LedAt w g 0) :
 Calls prog 16 #[.pointer (some ⟨g,0,none⟩),.agg (awShip ⟨gp,0,none⟩ pc),.agg #[.int .i64 0,.int .i64 0,.slice none 0 0]] w fun x w'=>(∃ g' c',x=.returned (.tuple #[.agg noMail,.agg (awCmd ⟨g',0,none⟩ c'),.int .i64 2]))/\Below w w w':=by
 have hg:=h.lt
 have hbl:Below w w ((((w.alloc (.cells (awShip ⟨gp,0,none⟩ pc) 30)).alloc (.cells #[.int .i64 0,.int .i64 0,.slice none 0 0] 32)).alloc (.cells noMail 30)).alloc (.cells noCmd 47)):=((((Below.refl _ _).alloc (Nat.le_refl _) _).alloc (by simp) _).alloc (by simp;omega) _).alloc (by simp;omega) _
 have hk4:=(((Blk.new w 30 (awShip ⟨gp,0,none⟩ pc)).alloc (.cells #[.int .i64 0,.int .i64 0,.slice none 0 0] 32)).alloc (.cells noMail 30)).alloc (.cells noCmd 47)
 have hk6:=(Blk.new ((w.alloc (.cells (awShip ⟨gp,0,none⟩ pc) 30)).alloc (.cells #[.int .i64 0,.int .i64 0,.slice none 0 0] 32)) 30 noMail).alloc (.cells noCmd 47)
 have hk7:=Blk.new (((w.alloc (.cells (awShip ⟨gp,0,none⟩ pc) 30)).alloc (.cells #[.int .i64 0,.int .i64 0,.slice none 0 0] 32)).alloc (.cells noMail 30)) 47 noCmd
 have hs6:((w.alloc (.cells (awShip ⟨gp,0,none⟩ pc) 30)).alloc (.cells #[.int .i64 0,.int .i64 0,.slice none 0 0] 32)).heap.size=w.heap.size+1+1:=by simp
 have hs7:(((w.alloc (.cells (awShip ⟨gp,0,none⟩ pc) 30)).alloc (.cells #[.int .i64 0,.int .i64 0,.slice none 0 0] 32)).alloc (.cells noMail 30)).heap.size=w.heap.size+1+1+1:=by simp
 rw [hs6] at hk6
 rw [hs7] at hk7
 have hl:=h.below hbl hg
 obtain⟨HBL,HK4,HK6,HK7,HL⟩:=J5 hbl hk4 hk6 hk7 hl
 clear h hbl hk4 hk6 hk7 hl hs6 hs7
 go_enter func16,ntmps16
 go_wp2_with fail
 refine (holder_aw g 0 _ HL.out).mono ?_
 rintro x w1 ⟨rfl,hb1⟩
 have hk4:=(HK4.out.below hb1 HK4.out.lt).alloc (.cells #[.int .i64 0,.int .i64 0] 93)
 have hk6:=(HK6.out.below hb1 HK6.out.lt).alloc (.cells #[.int .i64 0,.int .i64 0] 93)
 have hk7:=(HK7.out.below hb1 HK7.out.lt).alloc (.cells #[.int .i64 0,.int .i64 0] 93)
 have hb1':=HBL.out.trans (hb1.mono HBL.out.size)
 have hbg:Below w1 w1 (w1.alloc (.cells #[.int .i64 0,.int .i64 0] 93)):=(Below.refl _ _).alloc (Nat.le_refl _) _
 have hl:=(HL.out.below hb1 HL.out.lt).below hbg (HL.out.below hb1 HL.out.lt).lt
 have hkg:=Blk.new w1 93 #[.int .i64 0,.int .i64 0]
 obtain⟨c0,c1,c2,c3,c4,c5,c6,c7,c8,c9,c10,c11,c12,c13,c14,c15,c16⟩:=hk4.cs 0 17
 have HB1:=J (hb1'.trans (hbg.mono hb1'.size))
 obtain⟨K4,K6,K7,L,KG⟩:=J5 hk4 hk6 hk7 hl hkg
 clear hk4 hk6 hk7 hb1' hbg hl hb1 hkg
 go_wp2_with fail
 refine (check9c ⟨gp,0,none⟩ pc _).mono ?_
 rintro x w2 ⟨rfl,hb2⟩
 have hk4:=K4.out.below hb2 K4.out.lt
 have hk6:=K6.out.below hb2 K6.out.lt
 have hk7:=K7.out.below hb2 K7.out.lt
 have hl:=L.out.below hb2 L.out.lt
 have hkg:=KG.out.below hb2 KG.out.lt
 clear c0 c1 c2 c3 c4 c5 c6 c7 c8 c9 c10 c11 c12 c13 c14 c15 c16
 obtain⟨c9,c10⟩:=hk4.cs 9 2
 obtain⟨e0,e1⟩:=hkg.cs 0 2
 have HB2:=J (HB1.out.trans (hb2.mono HB1.out.size))
 have K4':=J hk4
 have K6':=J hk6
 have K7':=J hk7
 have L':=J hl
 clear hk4 hk6 hk7 hl hb2 hkg
 go_wp2_with fail
 refine (fence_aw g 0 w2 L'.out).mono ?_
 rintro x w3 ⟨rfl,rfl⟩
 go_wp2_with fail
 refine (ops_aw g 0 w3 L'.out).mono ?_
 rintro x w4 ⟨rfl,rfl⟩
 go_upto_region 5 with fail
 have hbs:Below w4 w4 (w4.alloc (.cells #[.slice none 0 0] 28)):=(Below.refl _ _).alloc (Nat.le_refl _) _
 have hk6:=K6'.out.alloc (.cells #[.slice none 0 0] 28)
 have f0:=hk6.frozen
 obtain⟨d0,d1,d2,d3,d4,d5,d6,d7,d8,d9,d10,d11,d12,d13,d14,d15,d16⟩:=hk6.cs 0 17
 have q9:=(K4'.out.alloc (.cells #[.slice none 0 0] 28)).cell 9
 simp at q9
 have P6:=J hk6
 clear hk6
 go_cut [51] (fun v wx=>(Blk wx w 30 (awShip ⟨gp,0,none⟩ pc)/\Blk wx (w.heap.size+1+1) 30 awAnswer/\Blk wx (w.heap.size+1+1+1) 47 noCmd/\LedAt wx g 0/\Below w w wx)/\Blk wx w4 28 #[.slice none 0 0])
 case first=>
  exact Y21
 case rest=>
 obtain⟨⟨h4,h6,h7,hl,hb⟩,hops⟩:=hcut
 have c9:=h4.c1 9
 obtain⟨K4,K6,K7,HB⟩:=J4 h4 h6 h7 hb
 clear h4 h6 h7 hl hb hops
 go_wp2_with fail
 obtain⟨b4,e4⟩:∃ b,b=w.heap.size:=⟨_,rfl⟩
 obtain⟨b6,e6⟩:∃ b,b=w.heap.size+1+1:=⟨_,rfl⟩
 obtain⟨b7,e7⟩:∃ b,b=w.heap.size+1+1+1:=⟨_,rfl⟩
 have HB6:=J (show w.heap.size<=b6 by omega)
 have HB7:=J (show w.heap.size<=b7 by omega)
 have HN46:=J (show b4≠b6 by omega)
 have HN47:=J (show b4≠b7 by omega)
 have HN76:=J (show b7≠b6 by omega)
 obtain⟨E4,E6,E7⟩:=J3 e4 e6 e7
 clear e4 e6 e7
 refine wp_region_stores kr (MeetV b4 b6 b7 gp pc) (fun W=>Below w w W/\Blk W b4 30 (awShip ⟨gp,0,none⟩ pc)/\Cells17 W b6/\Cells16 W b7) (fun W W'=>(Blk W b6 30 noMail->Blk W' b6 30 noMail)/\((∃ g' c',Blk W b7 47 (awCmd ⟨g',0,none⟩ c'))->∃ g' c',Blk W' b7 47 (awCmd ⟨g',0,none⟩ c'))) kr ?hG ?hmono ?hstep ?hend
 case hG=>
  rw [E4.out,E6.out,E7.out]
  exact⟨HB.out.drew,K4.out.drew,⟨_,_,_,_,_,_,_,_,_,_,_,_,_,_,_,_,_,K6.out.drew⟩,⟨_,_,_,_,_,_,_,_,_,_,_,_,_,_,_,_,K7.out.drew⟩⟩
 case hmono=>
  intro i v W W' hx hv
  match i with
  | 15=>exact hx.1 hv
  | 16=>exact hx.2 hv
  | 0|1|2|3|4|5|6|7|8|9|10|11|12|13|14|17=>exact hv
  | i+18=>exact hv
 case hstep=>
  intro i o F U W ho hGW hat hoff hp
  have hrefl:=fun W:World=>(⟨fun h=>h,fun h=>h⟩:(Blk W b6 30 noMail->Blk W b6 30 noMail)/\((∃ g' c',Blk W b7 47 (awCmd ⟨g',0,none⟩ c'))->∃ g' c',Blk W b7 47 (awCmd ⟨g',0,none⟩ c')))
  match i with
  | 0=>
   cases ho;have hrb4:=ow 4 E4;have hrb6:=ow 6 E6;have hrb7:=ow 7 E7;clear hat hoff hp
   exact wp_value' (.agg noMail) W (by unfold execOp;go_simp) ⟨_,rfl,rfl,hGW,hrefl W⟩
  | 1=>
   cases ho;have hrb4:=ow 4 E4;have hrb6:=ow 6 E6;have hrb7:=ow 7 E7;clear hat hoff hp;have hx:=act_tmp hrb4
   exact wp_value' (.pointer (some ⟨b4,9,none⟩)) W (by unfold execOp;go_simp) ⟨_,rfl,rfl,hGW,hrefl W⟩
  | 2=>
   cases ho
   have hv1:MeetV b4 b6 b7 gp pc 1 (U 1) W:=hp ⟨1,.data⟩ (by simp) rfl
   have ht1:=act_tmp (hat 1 114 kd rfl);have hrb4:=ow 4 E4;have hrb6:=ow 6 E6;have hrb7:=ow 7 E7;clear hat hoff hp;rw [hv1] at ht1;have hc:=hGW.2.1.c1 9
   exact Y71
  | 3=>
   cases ho;have hrb4:=ow 4 E4;have hrb6:=ow 6 E6;have hrb7:=ow 7 E7;clear hat hoff hp;have hx:=act_tmp hrb4
   exact wp_value' (.pointer (some ⟨b4,10,none⟩)) W (by unfold execOp;go_simp) ⟨_,rfl,rfl,hGW,hrefl W⟩
  | 4=>
   cases ho
   have hv3:MeetV b4 b6 b7 gp pc 3 (U 3) W:=hp ⟨3,.data⟩ (by simp) rfl
   have ht3:=act_tmp (hat 3 116 kd rfl);have hrb4:=ow 4 E4;have hrb6:=ow 6 E6;have hrb7:=ow 7 E7;clear hat hoff hp;rw [hv3] at ht3;have hc:=hGW.2.1.c1 10
   exact Y39
  | 5=>
   exact Y75
  | 6=>
   cases ho
   have hv5:MeetV b4 b6 b7 gp pc 5 (U 5) W:=hp ⟨5,.data⟩ (by simp) rfl
   have ht5:=act_tmp (hat 5 118 kd rfl);have hrb4:=ow 4 E4;have hrb6:=ow 6 E6;have hrb7:=ow 7 E7;clear hat hoff hp;rw [hv5] at ht5
   exact wp_value' (.pointer (some ⟨b4,11,none⟩)) W (by unfold execOp;go_simp) ⟨_,rfl,rfl,hGW,hrefl W⟩
  | 7=>
   cases ho
   have hv6:MeetV b4 b6 b7 gp pc 6 (U 6) W:=hp ⟨6,.data⟩ (by simp) rfl
   have ht6:=act_tmp (hat 6 119 kd rfl);have hrb4:=ow 4 E4;have hrb6:=ow 6 E6;have hrb7:=ow 7 E7;clear hat hoff hp;rw [hv6] at ht6;have hc:=hGW.2.1.c1 11
   exact Y53
  | 8=>
   exact Y75
  | 9=>
   cases ho
   have hv8:MeetV b4 b6 b7 gp pc 8 (U 8) W:=hp ⟨8,.data⟩ (by simp) rfl
   have ht8:=act_tmp (hat 8 121 kd rfl);have hrb4:=ow 4 E4;have hrb6:=ow 6 E6;have hrb7:=ow 7 E7;clear hat hoff hp;rw [hv8] at ht8
   exact wp_value' (.pointer (some ⟨b4,12,none⟩)) W (by unfold execOp;go_simp) ⟨_,rfl,rfl,hGW,hrefl W⟩
  | 10=>
   cases ho
   have hv9:MeetV b4 b6 b7 gp pc 9 (U 9) W:=hp ⟨9,.data⟩ (by simp) rfl
   have ht9:=act_tmp (hat 9 122 kd rfl);have hrb4:=ow 4 E4;have hrb6:=ow 6 E6;have hrb7:=ow 7 E7;clear hat hoff hp;rw [hv9] at ht9;have hc:=hGW.2.1.c1 12
   exact Y71
  | 11=>
   cases ho;have hrb4:=ow 4 E4;have hrb6:=ow 6 E6;have hrb7:=ow 7 E7;clear hat hoff hp;have hx:=act_tmp hrb4
   exact wp_value' (.pointer (some ⟨b4,16,none⟩)) W (by unfold execOp;go_simp) ⟨_,rfl,rfl,hGW,hrefl W⟩
  | 12=>
   cases ho
   have hv11:MeetV b4 b6 b7 gp pc 11 (U 11) W:=hp ⟨11,.data⟩ (by simp) rfl
   have ht11:=act_tmp (hat 11 124 kd rfl);have hrb4:=ow 4 E4;have hrb6:=ow 6 E6;have hrb7:=ow 7 E7;clear hat hoff hp;rw [hv11] at ht11;have hc:=hGW.2.1.c1 16
   exact wp_value' (.slice (some ⟨gp,0,none⟩) 0 pc) W (by unfold execOp;go_simp) ⟨_,rfl,rfl,hGW,hrefl W⟩
  | 13=>
   cases ho
   have hv12:MeetV b4 b6 b7 gp pc 12 (U 12) W:=hp ⟨12,.data⟩ (by simp) rfl
   have ht12:=act_tmp (hat 12 125 kd rfl);have hrb4:=ow 4 E4;have hrb6:=ow 6 E6;have hrb7:=ow 7 E7;clear hat hoff hp;rw [hv12] at ht12
   refine wp_enter' 62 #[.slice (some ⟨gp,0,none⟩) 0 pc] (by unfold execOp;go_simp) ?_
   refine (copied_bare ⟨gp,0,none⟩ 0 pc [] W (reads_none _ _ _ _) (by omega) (by simp)).mono ?_
   rintro e W' ⟨g',c',rfl,_,_,_,hb⟩
   exact⟨_,rfl,_,rfl,⟨g',c',rfl⟩,⟨hGW.1.trans (hb.mono hGW.1.size),hGW.2.1.below hb hGW.2.1.lt,cells17_below hGW.2.2.1 hb,cells16_below hGW.2.2.2 hb⟩,fun h=>h.below hb h.lt,fun ⟨g',c',h⟩=>⟨g',c',h.below hb h.lt⟩⟩
  | 14=>
   cases ho
   have hv2:MeetV b4 b6 b7 gp pc 2 (U 2) W:=hp ⟨2,.data⟩ (by simp) rfl
   have ht2:=act_tmp (hat 2 115 kd rfl)
   have hv4:MeetV b4 b6 b7 gp pc 4 (U 4) W:=hp ⟨4,.data⟩ (by simp) rfl
   have ht4:=act_tmp (hat 4 117 kd rfl)
   have hv7:MeetV b4 b6 b7 gp pc 7 (U 7) W:=hp ⟨7,.data⟩ (by simp) rfl
   have ht7:=act_tmp (hat 7 120 kd rfl)
   have hv10:MeetV b4 b6 b7 gp pc 10 (U 10) W:=hp ⟨10,.data⟩ (by simp) rfl
   have ht10:=act_tmp (hat 10 123 kd rfl)
   have hv13:MeetV b4 b6 b7 gp pc 13 (U 13) W:=hp ⟨13,.data⟩ (by simp) rfl
   have ht13:=act_tmp (hat 13 126 kd rfl);have hrb4:=ow 4 E4;have hrb6:=ow 6 E6;have hrb7:=ow 7 E7;clear hat hoff hp;obtain⟨g',c',hg'⟩:=hv13;rw [hv2] at ht2;rw [hv4] at ht4;rw [hv7] at ht7;rw [hv10] at ht10;rw [hg'] at ht13
   exact wp_value' (.agg (awCmd ⟨g',0,none⟩ c')) W (by unfold execOp;go_simp) ⟨_,rfl,⟨g',c',rfl⟩,hGW,hrefl W⟩
  | 15=>
   cases ho
   have hv0:MeetV b4 b6 b7 gp pc 0 (U 0) W:=hp ⟨0,.data⟩ (by simp) rfl
   have ht0:=act_tmp (hat 0 113 kd rfl);have hrb4:=ow 4 E4;have hrb6:=ow 6 E6;have hrb7:=ow 7 E7;clear hat hoff hp;rw [hv0] at ht0;obtain⟨a0,a1,a2,a3,a4,a5,a6,a7,a8,a9,a10,a11,a12,a13,a14,a15,a16,hbk⟩:=hGW.2.2.1
   refine wp_skip' (putCells W b6 0 (noMail).toList) (store_mail 6 113 rfl F W b6 hrb6 (by simpa [Act.eval] using ht0) hbk) ?_
   exact⟨_,rfl,putCells_blk hbk rfl,⟨putCells_below HB6.out _ _ _ _ hGW.1,(putCells_save _ _ _ _).blk hGW.2.1 HN46.out,⟨_,_,_,_,_,_,_,_,_,_,_,_,_,_,_,_,_,putCells_blk (l:=noMail.toList) hbk rfl⟩,by obtain⟨q0,q1,q2,q3,q4,q5,q6,q7,q8,q9,q10,q11,q12,q13,q14,q15,h7⟩:=hGW.2.2.2;exact⟨_,_,_,_,_,_,_,_,_,_,_,_,_,_,_,_,(putCells_save _ _ _ _).blk h7 HN76.out⟩⟩,fun _=>putCells_blk hbk rfl,fun ⟨g',c',h⟩=>⟨g',c',(putCells_save _ _ _ _).blk h HN76.out⟩⟩
  | 16=>
   cases ho
   have hv14:MeetV b4 b6 b7 gp pc 14 (U 14) W:=hp ⟨14,.data⟩ (by simp) rfl
   have ht14:=act_tmp (hat 14 127 kd rfl);have hrb4:=ow 4 E4;have hrb6:=ow 6 E6;have hrb7:=ow 7 E7;clear hat hoff hp;obtain⟨g',c',hg'⟩:=hv14;rw [hg'] at ht14;obtain⟨a0,a1,a2,a3,a4,a5,a6,a7,a8,a9,a10,a11,a12,a13,a14,a15,hbk⟩:=hGW.2.2.2
   refine wp_skip' (putCells W b7 0 (awCmd ⟨g',0,none⟩ c').toList) (store_cmd 7 127 rfl F W b7 hrb7 (by simpa [Act.eval] using ht14) hbk) ?_
   exact⟨_,rfl,⟨g',c',putCells_blk hbk rfl⟩,⟨putCells_below HB7.out _ _ _ _ hGW.1,(putCells_save _ _ _ _).blk hGW.2.1 HN47.out,by obtain⟨q0,q1,q2,q3,q4,q5,q6,q7,q8,q9,q10,q11,q12,q13,q14,q15,q16,h6⟩:=hGW.2.2.1;exact⟨_,_,_,_,_,_,_,_,_,_,_,_,_,_,_,_,_,(putCells_save _ _ _ _).blk h6 (Ne.symm HN76.out)⟩,⟨_,_,_,_,_,_,_,_,_,_,_,_,_,_,_,_,putCells_blk (l:=(awCmd ⟨g',0,none⟩ c').toList) hbk rfl⟩⟩,fun h=>(putCells_save _ _ _ _).blk h (Ne.symm HN76.out),fun _=>⟨g',c',putCells_blk hbk rfl⟩⟩
  | 17=>cases ho;have hrb4:=ow 4 E4;have hrb6:=ow 6 E6;have hrb7:=ow 7 E7;clear hat hoff hp;exact wp_assign' (.const (.int .i64 2)) rfl ⟨_,rfl,rfl,hGW,hrefl W⟩
  | i+18=>exact absurd ho (by simp)
 case hend=>
  intro U W hGW hV
  have h15:Blk W b6 30 noMail:=hV 15 kd
  obtain⟨g',c',h16⟩:=hV 16 kd
  have h17:U 17=.int .i64 2:=hV 17 kd
  obtain⟨K15,K16,HW⟩:=J3 h15 h16 hGW.1
  clear hV hGW h15 h16
  simp [putU,dstAt,Act.put,Exit.then,h17]
  go_wp2
  have hk6:=K15.out
  have hk7:=K16.out
  rw [E6.out] at hk6
  rw [E7.out] at hk7
  refine bodyPost_ret (v:=.tuple #[.agg noMail,.agg (awCmd ⟨g',0,none⟩ c'),.int .i64 2]) (meet_results rfl rfl rfl hk6 hk7) rfl ?_
  exact⟨⟨g',c',rfl⟩,HW.out⟩
def MeetH (b4 b6:Nat):Nat->Value->World->Prop
 | 0,v,_=>v=.slice none 0 0
 | 1,v,_=>∃ ge,v=.slice (some ⟨ge,0,none⟩) 0 0
 | 2,v,_=>v=.pointer (some ⟨b4,11,none⟩)
 | 3,v,_=>v=.pointer (some ⟨b4,11,none⟩)
 | 4,v,_=>v=.int .i64 2
 | 5,v,_=>v=.pointer (some ⟨b4,11,none⟩)
 | 6,v,_=>v=.pointer (some ⟨b4,12,none⟩)
 | 7,v,_=>v=.int .i64 1
 | 8,v,_=>v=.agg #[.int .i64 0,.int .i64 0]
 | 9,v,_=>v=.pointer (some ⟨b6,11,none⟩)
 | 10,_,_=>True
 | _,_,_=>False
def MeetE:Nat->Value->World->Prop
 | 0,v,_=>v=.agg awAnswer
 | 1,v,_=>v=.agg noCmd
 | 2,_,_=>True
 | 3,_,_=>True
 | 4,v,_=>v=.int .i64 1
 | _,_,_=>False
theorem meet2 (g gp pc:Nat) (w:World) (h:LedAt w g 1) :
 Calls prog 16 #[.pointer (some ⟨g,0,none⟩),.agg (awShip ⟨gp,0,none⟩ pc),.agg #[.int .i64 0,.int .i64 0,.slice none 0 0]] w fun x w'=>(x=.returned (.tuple #[.agg awAnswer,.agg noCmd,.int .i64 1]))/\Below w w w':=by
 have hg:=h.lt
 have hbl:Below w w ((((w.alloc (.cells (awShip ⟨gp,0,none⟩ pc) 30)).alloc (.cells #[.int .i64 0,.int .i64 0,.slice none 0 0] 32)).alloc (.cells noMail 30)).alloc (.cells noCmd 47)):=((((Below.refl _ _).alloc (Nat.le_refl _) _).alloc (by simp) _).alloc (by simp;omega) _).alloc (by simp;omega) _
 have hk4:=(((Blk.new w 30 (awShip ⟨gp,0,none⟩ pc)).alloc (.cells #[.int .i64 0,.int .i64 0,.slice none 0 0] 32)).alloc (.cells noMail 30)).alloc (.cells noCmd 47)
 have hk6:=(Blk.new ((w.alloc (.cells (awShip ⟨gp,0,none⟩ pc) 30)).alloc (.cells #[.int .i64 0,.int .i64 0,.slice none 0 0] 32)) 30 noMail).alloc (.cells noCmd 47)
 have hk7:=Blk.new (((w.alloc (.cells (awShip ⟨gp,0,none⟩ pc) 30)).alloc (.cells #[.int .i64 0,.int .i64 0,.slice none 0 0] 32)).alloc (.cells noMail 30)) 47 noCmd
 have hs6:((w.alloc (.cells (awShip ⟨gp,0,none⟩ pc) 30)).alloc (.cells #[.int .i64 0,.int .i64 0,.slice none 0 0] 32)).heap.size=w.heap.size+1+1:=by simp
 have hs7:(((w.alloc (.cells (awShip ⟨gp,0,none⟩ pc) 30)).alloc (.cells #[.int .i64 0,.int .i64 0,.slice none 0 0] 32)).alloc (.cells noMail 30)).heap.size=w.heap.size+1+1+1:=by simp
 rw [hs6] at hk6
 rw [hs7] at hk7
 have hl:=h.below hbl hg
 obtain⟨HBL,HK4,HK6,HK7,HL⟩:=J5 hbl hk4 hk6 hk7 hl
 clear h hbl hk4 hk6 hk7 hl hs6 hs7
 go_enter func16,ntmps16
 go_wp2_with fail
 refine (holder_aw g 1 _ HL.out).mono ?_
 rintro x w1 ⟨rfl,hb1⟩
 have hk4:=(HK4.out.below hb1 HK4.out.lt).alloc (.cells #[.int .i64 0,.int .i64 0] 93)
 have hk6:=(HK6.out.below hb1 HK6.out.lt).alloc (.cells #[.int .i64 0,.int .i64 0] 93)
 have hk7:=(HK7.out.below hb1 HK7.out.lt).alloc (.cells #[.int .i64 0,.int .i64 0] 93)
 have hb1':=HBL.out.trans (hb1.mono HBL.out.size)
 have hbg:Below w1 w1 (w1.alloc (.cells #[.int .i64 0,.int .i64 0] 93)):=(Below.refl _ _).alloc (Nat.le_refl _) _
 have hl:=(HL.out.below hb1 HL.out.lt).below hbg (HL.out.below hb1 HL.out.lt).lt
 have hkg:=Blk.new w1 93 #[.int .i64 0,.int .i64 0]
 obtain⟨c0,c1,c2,c3,c4,c5,c6,c7,c8,c9,c10,c11,c12,c13,c14,c15,c16⟩:=hk4.cs 0 17
 have HB1:=J (hb1'.trans (hbg.mono hb1'.size))
 obtain⟨K4,K6,K7,L,KG⟩:=J5 hk4 hk6 hk7 hl hkg
 clear hk4 hk6 hk7 hb1' hbg hl hb1 hkg
 go_wp2_with fail
 refine (check9c ⟨gp,0,none⟩ pc _).mono ?_
 rintro x w2 ⟨rfl,hb2⟩
 have hk4:=K4.out.below hb2 K4.out.lt
 have hk6:=K6.out.below hb2 K6.out.lt
 have hk7:=K7.out.below hb2 K7.out.lt
 have hl:=L.out.below hb2 L.out.lt
 have hkg:=KG.out.below hb2 KG.out.lt
 clear c0 c1 c2 c3 c4 c5 c6 c7 c8 c9 c10 c11 c12 c13 c14 c15 c16
 obtain⟨c9,c10⟩:=hk4.cs 9 2
 obtain⟨e0,e1⟩:=hkg.cs 0 2
 have HB2:=J (HB1.out.trans (hb2.mono HB1.out.size))
 have K4':=J hk4
 have K6':=J hk6
 have K7':=J hk7
 have L':=J hl
 clear hk4 hk6 hk7 hl hb2 hkg
 go_wp2_with fail
 refine (fence_aw g 1 w2 L'.out).mono ?_
 rintro x w3 ⟨rfl,rfl⟩
 go_wp2_with fail
 refine (ops_aw g 1 w3 L'.out).mono ?_
 rintro x w4 ⟨rfl,rfl⟩
 go_upto_region 5 with fail
 have hbs:Below w4 w4 (w4.alloc (.cells #[.slice none 0 0] 28)):=(Below.refl _ _).alloc (Nat.le_refl _) _
 have hk6:=K6'.out.alloc (.cells #[.slice none 0 0] 28)
 have f0:=hk6.frozen
 obtain⟨d0,d1,d2,d3,d4,d5,d6,d7,d8,d9,d10,d11,d12,d13,d14,d15,d16⟩:=hk6.cs 0 17
 have q9:=(K4'.out.alloc (.cells #[.slice none 0 0] 28)).cell 9
 simp at q9
 have P6:=J hk6
 clear hk6
 go_cut [51] (fun v wx=>(Blk wx w 30 (awShip ⟨gp,0,none⟩ pc)/\Blk wx (w.heap.size+1+1) 30 awAnswer/\Blk wx (w.heap.size+1+1+1) 47 noCmd/\LedAt wx g 1/\Below w w wx)/\Blk wx w4 28 #[.slice none 0 0])
 case first=>
  exact Y21
 case rest=>
 obtain⟨⟨h4,h6,h7,hl,hb⟩,hops⟩:=hcut
 have c9:=h4.c1 9
 obtain⟨c11,c12⟩:=h4.cs 11 2
 have o0:=hops.c1 0
 have hop4:=hops
 obtain⟨K4,K6,K7,KO,HB⟩:=J5 h4 h6 h7 hops hb
 have hbs2:=K4'.out.lt
 have hbo6:w4.heap.size≠w.heap.size+1+1:=by have:=K6'.out.lt;omega
 have hbo7:w4.heap.size≠w.heap.size+1+1+1:=by have:=K7'.out.lt;omega
 clear h4 h6 h7 hl hb hops hop4
 go_wp2_with fail
 refine (has_aw _ _ (Blk.new wc 26 #[.int .i64 2,.int .i64 1])).mono ?_
 rintro x w5 ⟨rfl,hb5⟩
 have hbsp:Below wc wc (wc.alloc (.cells #[.int .i64 2,.int .i64 1] 26)):=(Below.refl _ _).alloc (Nat.le_refl _) _
 have hb5':Below wc wc w5:=hbsp.trans (hb5.mono hbsp.size)
 have k4:=K4.out.below hb5' K4.out.lt
 have k6:=K6.out.below hb5' K6.out.lt
 have k7:=K7.out.below hb5' K7.out.lt
 have ko:=KO.out.below hb5' KO.out.lt
 have hbw:=HB.out.trans (hb5'.mono HB.out.size)
 obtain⟨R4,R6,R7,RO,RB⟩:=J5 k4 k6 k7 ko hbw
 clear k4 k6 k7 ko hbw hb5 hb5' hbsp c9 c11 c12 o0
 go_wp2_with fail
 obtain⟨b4,e4⟩:∃ b,b=w.heap.size:=⟨_,rfl⟩
 obtain⟨b6,e6⟩:∃ b,b=w.heap.size+1+1:=⟨_,rfl⟩
 obtain⟨b7,e7⟩:∃ b,b=w.heap.size+1+1+1:=⟨_,rfl⟩
 obtain⟨bo,eo⟩:∃ b,b=w4.heap.size:=⟨_,rfl⟩
 have HB6:=J (show w.heap.size<=b6 by omega)
 have HB7:=J (show w.heap.size<=b7 by omega)
 have HN46:=J (show b4≠b6 by omega)
 have HN47:=J (show b4≠b7 by omega)
 have HN76:=J (show b7≠b6 by omega)
 have HNO6:=J (show bo≠b6 by omega)
 have HNO7:=J (show bo≠b7 by omega)
 obtain⟨E4,E6,E7,EO⟩:=J4 e4 e6 e7 eo
 clear e4 e6 e7 eo hbo6 hbo7 hbs2
 refine wp_region_stores kr (MeetH b4 b6) (fun W=>Below w w W/\Blk W b4 30 (awShip ⟨gp,0,none⟩ pc)/\Blk W b6 30 awAnswer/\Blk W b7 47 noCmd/\Blk W bo 28 #[.slice none 0 0]) (fun _ _=>True) kr ?hG ?hmono ?hstep ?hend
 case hG=>
  rw [E4.out,E6.out,E7.out,EO.out]
  exact⟨RB.out.drew,R4.out.drew,R6.out.drew,R7.out.drew,RO.out.drew⟩
 case hmono=>
  intro i v W W' hx hv
  match i with
  | 0|1|2|3|4|5|6|7|8|9|10=>exact hv
  | i+11=>exact hv
 case hstep=>
  intro i o F U W ho hGW hat hoff hp
  match i with
  | 0=>
   cases ho;have hrb4:=ow 4 E4;have hrb6:=ow 6 E6;have hrb7:=ow 7 E7;have hrbo:=ow 11 EO;clear hat hoff hp;have hx:=act_tmp hrbo;have hc:=hGW.2.2.2.2.c1 0
   exact wp_value' (.slice none 0 0) W (by unfold execOp;go_simp) ⟨_,rfl,rfl,hGW,trivial⟩
  | 1=>
   cases ho
   have hv0:MeetH b4 b6 0 (U 0) W:=hp ⟨0,.data⟩ (by simp) rfl
   have ht0:=act_tmp (hat 0 68 kd rfl);have hrb4:=ow 4 E4;have hrb6:=ow 6 E6;have hrb7:=ow 7 E7;have hrbo:=ow 11 EO;clear hat hoff hp;rw [hv0] at ht0
   refine wp_enter' 56 #[.slice none 0 0] (by unfold execOp;go_simp) ?_
   refine (epochs_any none 0 0 [] W (reads_none _ _ _ _) (by omega)).mono ?_
   rintro e W' ⟨ge,rfl,_,hb⟩
   exact⟨_,rfl,_,rfl,⟨ge,rfl⟩,⟨hGW.1.trans (hb.mono hGW.1.size),hGW.2.1.below hb hGW.2.1.lt,hGW.2.2.1.below hb hGW.2.2.1.lt,hGW.2.2.2.1.below hb hGW.2.2.2.1.lt,hGW.2.2.2.2.below hb hGW.2.2.2.2.lt⟩,trivial⟩
  | 2=>
   exact Y68
  | 3=>
   cases ho
   have hv2:MeetH b4 b6 2 (U 2) W:=hp ⟨2,.data⟩ (by simp) rfl
   have ht2:=act_tmp (hat 2 70 kd rfl);have hrb4:=ow 4 E4;have hrb6:=ow 6 E6;have hrb7:=ow 7 E7;have hrbo:=ow 11 EO;clear hat hoff hp;rw [hv2] at ht2
   exact wp_value' (.pointer (some ⟨b4,11,none⟩)) W (by unfold execOp;go_simp) ⟨_,rfl,rfl,hGW,trivial⟩
  | 4=>
   cases ho
   have hv3:MeetH b4 b6 3 (U 3) W:=hp ⟨3,.data⟩ (by simp) rfl
   have ht3:=act_tmp (hat 3 71 kd rfl);have hrb4:=ow 4 E4;have hrb6:=ow 6 E6;have hrb7:=ow 7 E7;have hrbo:=ow 11 EO;clear hat hoff hp;rw [hv3] at ht3;have hc:=hGW.2.1.c1 11
   exact wp_value' (.int .i64 2) W (by unfold execOp;go_simp) ⟨_,rfl,rfl,hGW,trivial⟩
  | 5=>
   exact Y68
  | 6=>
   cases ho
   have hv5:MeetH b4 b6 5 (U 5) W:=hp ⟨5,.data⟩ (by simp) rfl
   have ht5:=act_tmp (hat 5 73 kd rfl);have hrb4:=ow 4 E4;have hrb6:=ow 6 E6;have hrb7:=ow 7 E7;have hrbo:=ow 11 EO;clear hat hoff hp;rw [hv5] at ht5
   exact wp_value' (.pointer (some ⟨b4,12,none⟩)) W (by unfold execOp;go_simp) ⟨_,rfl,rfl,hGW,trivial⟩
  | 7=>
   cases ho
   have hv6:MeetH b4 b6 6 (U 6) W:=hp ⟨6,.data⟩ (by simp) rfl
   have ht6:=act_tmp (hat 6 74 kd rfl);have hrb4:=ow 4 E4;have hrb6:=ow 6 E6;have hrb7:=ow 7 E7;have hrbo:=ow 11 EO;clear hat hoff hp;rw [hv6] at ht6;have hc:=hGW.2.1.c1 12
   exact wp_value' (.int .i64 1) W (by unfold execOp;go_simp) ⟨_,rfl,rfl,hGW,trivial⟩
  | 8=>
   cases ho
   have hv1:MeetH b4 b6 1 (U 1) W:=hp ⟨1,.data⟩ (by simp) rfl
   have ht1:=act_tmp (hat 1 69 kd rfl)
   have hv4:MeetH b4 b6 4 (U 4) W:=hp ⟨4,.data⟩ (by simp) rfl
   have ht4:=act_tmp (hat 4 72 kd rfl)
   have hv7:MeetH b4 b6 7 (U 7) W:=hp ⟨7,.data⟩ (by simp) rfl
   have ht7:=act_tmp (hat 7 75 kd rfl);have hrb4:=ow 4 E4;have hrb6:=ow 6 E6;have hrb7:=ow 7 E7;have hrbo:=ow 11 EO;clear hat hoff hp;obtain⟨ge,hge⟩:=hv1;rw [hge] at ht1;rw [hv4] at ht4;rw [hv7] at ht7
   refine wp_enter' 55 #[.slice (some ⟨ge,0,none⟩) 0 0,.int .i64 2,.int .i64 1] (by unfold execOp;go_simp) ?_
   refine (hint_any (some ⟨ge,0,none⟩) 0 0 [] W Reads.none_ (by unfold maxLen;omega) 2 1 (by omega)).mono ?_
   rintro e W' ⟨rfl,hb⟩
   exact⟨_,rfl,_,rfl,rfl,⟨hGW.1.trans (hb.mono hGW.1.size),hGW.2.1.below hb hGW.2.1.lt,hGW.2.2.1.below hb hGW.2.2.1.lt,hGW.2.2.2.1.below hb hGW.2.2.2.1.lt,hGW.2.2.2.2.below hb hGW.2.2.2.2.lt⟩,trivial⟩
  | 9=>
   cases ho;have hrb4:=ow 4 E4;have hrb6:=ow 6 E6;have hrb7:=ow 7 E7;have hrbo:=ow 11 EO;clear hat hoff hp;have hx:=act_tmp hrb6
   exact wp_value' (.pointer (some ⟨b6,11,none⟩)) W (by unfold execOp;go_simp) ⟨_,rfl,rfl,hGW,trivial⟩
  | 10=>
   cases ho
   have hv8:MeetH b4 b6 8 (U 8) W:=hp ⟨8,.data⟩ (by simp) rfl
   have ht8:=act_tmp (hat 8 76 kd rfl)
   have hv9:MeetH b4 b6 9 (U 9) W:=hp ⟨9,.data⟩ (by simp) rfl
   have ht9:=act_tmp (hat 9 77 kd rfl);have hrb4:=ow 4 E4;have hrb6:=ow 6 E6;have hrb7:=ow 7 E7;have hrbo:=ow 11 EO;clear hat hoff hp;rw [hv8] at ht8;rw [hv9] at ht9;have hk:=hGW.2.2.1;have f0:=hk.frozen;obtain⟨d0,d1⟩:=hk.cs 11 2
   refine wp_skip' ((W.setCell ⟨b6,11,none⟩ (.int .i64 0)).setCell ⟨b6,12,none⟩ (.int .i64 0)) (by unfold execOp;go_simp) ?_
   have hsv:∀ {b:Nat} {t:TypeId} {cs:Array Value},Blk W b t cs->b≠b6->Blk ((W.setCell ⟨b6,11,none⟩ (.int .i64 0)).setCell ⟨b6,12,none⟩ (.int .i64 0)) b t cs:=fun h hne=>(h.far (p:=⟨b6,11,none⟩) hne _).far (p:=⟨b6,12,none⟩) hne _
   exact⟨_,rfl,trivial,⟨(hGW.1.setCell (p:=⟨b6,11,none⟩) HB6.out _).setCell (p:=⟨b6,12,none⟩) HB6.out _,hsv hGW.2.1 HN46.out,(hk.set_ 11 _).set_ 12 _,hsv hGW.2.2.2.1 HN76.out,hsv hGW.2.2.2.2 HNO6.out⟩,trivial⟩
  | i+11=>exact absurd ho (by simp)
 case hend=>
 intro U W hGW hV
 have HGW:=J hGW
 clear hV hGW
 simp [putU,dstAt,Act.put,Exit.then]
 go_wp2_with fail
 refine wp_region_stores kr MeetE (fun W=>Below w w W/\Blk W b4 30 (awShip ⟨gp,0,none⟩ pc)/\Blk W b6 30 awAnswer/\Blk W b7 47 noCmd/\Blk W bo 28 #[.slice none 0 0]) (fun _ _=>True) kr ?hG ?hmono ?hstep ?hend
 case hG=>exact⟨HGW.out.1.drew,HGW.out.2.1.drew,HGW.out.2.2.1.drew,HGW.out.2.2.2.1.drew,HGW.out.2.2.2.2.drew⟩
 case hmono=>
  intro i v W W' hx hv
  match i with
  | 0|1|2|3|4=>exact hv
  | i+5=>exact hv
 case hstep=>
  intro i o F U W ho hGW hat hoff hp
  match i with
  | 0=>cases ho;have hrb4:=ow 4 E4;have hrb6:=ow 6 E6;have hrb7:=ow 7 E7;have hrbo:=ow 11 EO;clear hat hoff hp;exact wp_value' (.agg awAnswer) W (load_mail 6 rfl F W b6 hrb6 hGW.2.2.1) ⟨_,rfl,rfl,hGW,trivial⟩
  | 1=>cases ho;have hrb4:=ow 4 E4;have hrb6:=ow 6 E6;have hrb7:=ow 7 E7;have hrbo:=ow 11 EO;clear hat hoff hp;exact wp_value' (.agg noCmd) W (load_cmd 7 rfl F W b7 hrb7 hGW.2.2.2.1) ⟨_,rfl,rfl,hGW,trivial⟩
  | 2=>
   cases ho
   have hv0:MeetE 0 (U 0) W:=hp ⟨0,.data⟩ (by simp) rfl
   have ht0:=act_tmp (hat 0 78 kd rfl);have hrb4:=ow 4 E4;have hrb6:=ow 6 E6;have hrb7:=ow 7 E7;have hrbo:=ow 11 EO;clear hat hoff hp;rw [hv0] at ht0
   refine wp_skip' (putCells W b6 0 awAnswer.toList) (store_mail 6 78 rfl F W b6 hrb6 (by simpa [Act.eval] using ht0) hGW.2.2.1) ?_
   exact⟨_,rfl,trivial,⟨putCells_below HB6.out _ _ _ _ hGW.1,(putCells_save _ _ _ _).blk hGW.2.1 HN46.out,putCells_blk (l:=awAnswer.toList) hGW.2.2.1 rfl,(putCells_save _ _ _ _).blk hGW.2.2.2.1 HN76.out,(putCells_save _ _ _ _).blk hGW.2.2.2.2 HNO6.out⟩,trivial⟩
  | 3=>
   cases ho
   have hv1:MeetE 1 (U 1) W:=hp ⟨1,.data⟩ (by simp) rfl
   have ht1:=act_tmp (hat 1 79 kd rfl);have hrb4:=ow 4 E4;have hrb6:=ow 6 E6;have hrb7:=ow 7 E7;have hrbo:=ow 11 EO;clear hat hoff hp;rw [hv1] at ht1
   refine wp_skip' (putCells W b7 0 noCmd.toList) (store_cmd 7 79 rfl F W b7 hrb7 (by simpa [Act.eval] using ht1) hGW.2.2.2.1) ?_
   exact⟨_,rfl,trivial,⟨putCells_below HB7.out _ _ _ _ hGW.1,(putCells_save _ _ _ _).blk hGW.2.1 HN47.out,(putCells_save _ _ _ _).blk hGW.2.2.1 (Ne.symm HN76.out),putCells_blk (l:=noCmd.toList) hGW.2.2.2.1 rfl,(putCells_save _ _ _ _).blk hGW.2.2.2.2 HNO7.out⟩,trivial⟩
  | 4=>cases ho;have hrb4:=ow 4 E4;have hrb6:=ow 6 E6;have hrb7:=ow 7 E7;have hrbo:=ow 11 EO;clear hat hoff hp;exact wp_assign' (.const (.int .i64 1)) rfl ⟨_,rfl,rfl,hGW,trivial⟩
  | i+5=>exact absurd ho (by simp)
 case hend=>
  intro U' W' hGW hV
  have h4':U' 4=.int .i64 1:=hV 4 kd
  have hk6:=hGW.2.2.1
  have hk7:=hGW.2.2.2.1
  rw [E6.out] at hk6
  rw [E7.out] at hk7
  obtain⟨K6f,K7f,HW⟩:=J3 hk6 hk7 hGW.1
  clear hV hGW hk6 hk7
  simp [putU,dstAt,Act.put,Exit.then,h4']
  go_wp2
  refine bodyPost_ret (v:=.tuple #[.agg awAnswer,.agg noCmd,.int .i64 1]) (meet_results rfl rfl rfl K6f.out K7f.out) rfl ?_
  exact⟨rfl,HW.out⟩
end Go.Proofs.Ytaipgdhdfpemcaa
