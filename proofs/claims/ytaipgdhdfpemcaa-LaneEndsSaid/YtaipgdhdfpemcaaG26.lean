/- THE WALKS OF THE LANE, part 26. -/
import Derived.Test.YtaipgdhdfpemcaaG7
import Derived.Test.YtaipgdhdfpemcaaG9
namespace Go.Proofs.Ytaipgdhdfpemcaa
set_option linter.all false
open Go.RowKit Go.Proofs.Try
set_option maxRecDepth 100000
set_option maxHeartbeats 4000000
def awOps:List Opd:=[⟨1,1,3,0,0,0,⟨#[]⟩,0,none,0,0⟩,⟨2,1,1,0,0,1,⟨#[97]⟩,0,none,0,0⟩]
section
variable {gp:Nat} {w:World}
theorem awOps_bare:∀ o∈awOps,o.hA=none/\o.hn=0/\o.hc=0:=by
 intro o ho
 simp [awOps] at ho
 rcases ho with rfl|rfl<;>exact⟨rfl,rfl,rfl⟩
theorem reads_none (w:World) (B s:Nat) (A:O):Reads w B s A 0 (opsV []):=⟨by simp [opsV],fun h=>absurd h (by omega)⟩
theorem aw_reads (h:Blk w gp 45 (opsV awOps).toArray):Reads w w.heap.size 9 (some ⟨gp,0,none⟩) 2 (opsV awOps):=by
 refine⟨by rw [opsV_len];rfl,fun _=>⟨_,rfl,h.lt,fun j u hu=>?_⟩⟩
 have e:(⟨gp,0,none⟩:Addr).add j=⟨gp,j,none⟩:=by simp [Addr.add];try exact fun h=>h.symm
 rw [e,h.cell j]
 simpa using hu
end
def Cells17 (W:World) (rb:Nat):Prop:=∃ a0 a1 a2 a3 a4 a5 a6 a7 a8 a9 a10 a11 a12 a13 a14 a15 a16,Blk W rb 30 #[a0,a1,a2,a3,a4,a5,a6,a7,a8,a9,a10,a11,a12,a13,a14,a15,a16]
theorem cells17_below {W W':World} {rb:Nat} (h:Cells17 W rb) (hb:Below W W W'):Cells17 W' rb:=by
 obtain⟨a0,a1,a2,a3,a4,a5,a6,a7,a8,a9,a10,a11,a12,a13,a14,a15,a16,h⟩:=h
 exact⟨_,_,_,_,_,_,_,_,_,_,_,_,_,_,_,_,_,h.below hb h.lt⟩
def OfferV2 (lb gp rb:Nat):Nat->Value->World->Prop
 | 0,v,_=>v=.pointer (some ⟨lb,0,none⟩)
 | 1,v,_=>v=.pointer (some ⟨lb,0,none⟩)
 | 2,v,_=>v=.pointer (some ⟨lb,5,none⟩)
 | 3,v,_=>v=.int .i64 1
 | 4,v,_=>v=.pointer (some ⟨lb,0,none⟩)
 | 5,v,_=>v=.pointer (some ⟨lb,0,none⟩)
 | 6,v,_=>v=.pointer (some ⟨lb,6,none⟩)
 | 7,v,_=>v=.int .i64 0
 | 8,v,_=>v=.agg #[.int .i64 0,.int .i64 0]
 | 9,v,_=>v=.slice (some ⟨gp,0,none⟩) 2 2
 | 10,v,_=>v=.int .i64 2
 | 11,v,_=>v=.slice (some ⟨gp,0,none⟩) 2 2
 | 12,v,_=>v=.agg #[.int .i64 2,.int .i64 1]
 | 13,v,_=>v=.slice (some ⟨gp,0,none⟩) 2 2
 | 14,v,_=>v=.int .i64 2
 | 15,v,_=>v=.slice (some ⟨gp,0,none⟩) 2 2
 | 16,v,_=>v=.int .i64 2
 | 17,v,_=>v=.int .i64 2
 | 18,v,_=>v=.int .i64 10
 | 19,v,_=>v=.int .i64 2
 | 20,v,_=>v=.slice (some ⟨gp,0,none⟩) 0 0
 | 21,v,_=>∃ g c',v=.slice (some ⟨g,0,none⟩) 0 c'
 | 22,v,_=>∃ g c',v=.agg (mailC 9 0 0 0 0 false none 0 0 ⟨#[]⟩ none 0 0 1 0 2 1 0 0 none 0 0 (some ⟨g,0,none⟩) 0 c')
 | 23,_,W=>∃ g c',Blk W rb 30 (mailC 9 0 0 0 0 false none 0 0 ⟨#[]⟩ none 0 0 1 0 2 1 0 0 none 0 0 (some ⟨g,0,none⟩) 0 c')
 | _,_,_=>False
theorem offer2 (lb gp:Nat) (mN mE wN wE:Int) (oA:O) (on oc:Nat) (w:World) (hl:Blk w lb 127 (laneC mN mE wN wE oA on oc 1 0 2)) (ho:Blk w gp 45 (opsV awOps).toArray) :
 Calls prog 26 #[.pointer (some ⟨lb,0,none⟩),.slice (some ⟨gp,0,none⟩) 2 2] w fun x w'=>(∃ g c',x=.returned (.agg (mailC 9 0 0 0 0 false none 0 0 ⟨#[]⟩ none 0 0 1 0 2 1 0 0 none 0 0 (some ⟨g,0,none⟩) 0 c')))/\Below w w w':=by
 have hr:=aw_reads ho
 have HR0:=J (hr.head (k:=0) (by omega))
 obtain⟨HR2,HD0⟩:=J2 hr hr
 have HD2:=J (reads_none w w.heap.size 9 (some ⟨gp,0,none⟩))
 have HL:=J hl
 have c7:=(hl.alloc (.cells (mailC 0 0 0 0 0 false none 0 0 ⟨#[]⟩ none 0 0 0 0 0 0 0 0 none 0 0 none 0 0) 30)).cell 7
 simp at c7
 have hbl:Below w w (w.alloc (.cells (mailC 0 0 0 0 0 false none 0 0 ⟨#[]⟩ none 0 0 0 0 0 0 0 0 none 0 0 none 0 0) 30)):=(Below.refl _ _).alloc (Nat.le_refl _) _
 have HBL:=J hbl
 clear hl ho hr hbl
 go_enter func26,ntmps26
 go_wp2_with fail
 obtain⟨rb,hrb⟩:∃ rb,rb=w.heap.size:=⟨_,rfl⟩
 have HRB:=J hrb
 clear hrb
 refine wp_region_stores kr (OfferV2 lb gp rb) (fun W=>Below w w W/\w.heap.size<W/\Cells17 W rb) (fun W W'=>Save rb W W'/\W.heap.size<=W'/\((∃ g c',Blk W rb 30 (mailC 9 0 0 0 0 false none 0 0 ⟨#[]⟩ none 0 0 1 0 2 1 0 0 none 0 0 (some ⟨g,0,none⟩) 0 c'))->∃ g c',Blk W' rb 30 (mailC 9 0 0 0 0 false none 0 0 ⟨#[]⟩ none 0 0 1 0 2 1 0 0 none 0 0 (some ⟨g,0,none⟩) 0 c'))) kr ?hG ?hmono ?hstep ?hend
 case hG=>exact⟨HBL.out.drew,by show w.heap.size<(w.alloc _).heap.size;simp,by rw [HRB.out];exact⟨_,_,_,_,_,_,_,_,_,_,_,_,_,_,_,_,_,(Blk.new w _ _).drew⟩⟩
 case hmono=>
  intro i v W W' hx hv
  match i with
  | 23=>exact hx.2.2 hv
  | 0|1|2|3|4|5|6|7|8|9|10|11|12|13|14|15|16|17|18|19|20|21|22=>exact hv
  | i+24=>exact hv
 case hstep=>
  intro i o F U W ho hGW hat hoff hp
  have hrefl:=fun W:World=>(⟨fun _ _ _=>rfl,Nat.le_refl _,fun h=>h⟩:Save rb W W/\W.heap.size<=W/\((∃ g c',Blk W rb 30 (mailC 9 0 0 0 0 false none 0 0 ⟨#[]⟩ none 0 0 1 0 2 1 0 0 none 0 0 (some ⟨g,0,none⟩) 0 c'))->∃ g c',Blk W rb 30 (mailC 9 0 0 0 0 false none 0 0 ⟨#[]⟩ none 0 0 1 0 2 1 0 0 none 0 0 (some ⟨g,0,none⟩) 0 c')))
  match i with
  | 0=>cases ho;exact wp_move' (.tmp 0) rfl ⟨_,rfl,(hoff 0 kd).trans rfl,hGW,hrefl W⟩
  | 1=>
   cases ho
   have hv0:OfferV2 lb gp rb 0 (U 0) W:=hp ⟨0,.data⟩ (by simp) rfl
   have ht0:=act_tmp (hat 0 16 kd rfl);clear hat hoff hp;rw [hv0] at ht0
   exact Y7
  | 2=>
   cases ho
   have hv1:OfferV2 lb gp rb 1 (U 1) W:=hp ⟨1,.data⟩ (by simp) rfl
   have ht1:=act_tmp (hat 1 17 kd rfl);clear hat hoff hp;rw [hv1] at ht1
   exact Y38
  | 3=>
   cases ho
   have hv2:OfferV2 lb gp rb 2 (U 2) W:=hp ⟨2,.data⟩ (by simp) rfl
   exact Y159
  | 4=>cases ho;exact wp_move' (.tmp 0) rfl ⟨_,rfl,(hoff 0 kd).trans rfl,hGW,hrefl W⟩
  | 5=>
   cases ho
   have hv4:OfferV2 lb gp rb 4 (U 4) W:=hp ⟨4,.data⟩ (by simp) rfl
   have ht4:=act_tmp (hat 4 20 kd rfl);clear hat hoff hp;rw [hv4] at ht4
   exact Y7
  | 6=>
   cases ho
   have hv5:OfferV2 lb gp rb 5 (U 5) W:=hp ⟨5,.data⟩ (by simp) rfl
   have ht5:=act_tmp (hat 5 21 kd rfl);clear hat hoff hp;rw [hv5] at ht5
   exact Y80
  | 7=>
   cases ho
   have hv6:OfferV2 lb gp rb 6 (U 6) W:=hp ⟨6,.data⟩ (by simp) rfl
   exact Y160
  | 8=>
   cases ho;clear hat hoff hp
   exact Y57
  | 9=>cases ho;exact wp_move' (.tmp 1) rfl ⟨_,rfl,(hoff 1 kd).trans rfl,hGW,hrefl W⟩
  | 10=>cases ho;exact wp_move' (.tmp 5) rfl ⟨_,rfl,(hoff 5 kd).trans rfl,hGW,hrefl W⟩
  | 11=>
   cases ho
   have hv9:OfferV2 lb gp rb 9 (U 9) W:=hp ⟨9,.data⟩ (by simp) rfl
   have ht9:=act_tmp (hat 9 25 kd rfl)
   have hv10:OfferV2 lb gp rb 10 (U 10) W:=hp ⟨10,.data⟩ (by simp) rfl
   have ht10:=act_tmp (hat 10 26 kd rfl);clear hat hoff hp;rw [hv9] at ht9;rw [hv10] at ht10
   exact Y121
  | 12=>
   cases ho
   have hv8:OfferV2 lb gp rb 8 (U 8) W:=hp ⟨8,.data⟩ (by simp) rfl
   have ht8:=act_tmp (hat 8 24 kd rfl)
   have hv11:OfferV2 lb gp rb 11 (U 11) W:=hp ⟨11,.data⟩ (by simp) rfl
   have ht11:=act_tmp (hat 11 27 kd rfl);clear hat hoff hp;rw [hv8] at ht8;rw [hv11] at ht11
   refine wp_enter' 60 #[.agg #[.int .i64 0,.int .i64 0],.slice (some ⟨gp,0,none⟩) 2 2] (by unfold execOp;go_simp) ?_
   refine (last_any 0 0 (some ⟨gp,0,none⟩) 2 2 (awOps.take 2) W (((HR2.out).below hGW.1).more hGW.1.size) (by omega)).mono ?_
   exact Y76
  | 13=>cases ho;exact wp_move' (.tmp 1) rfl ⟨_,rfl,(hoff 1 kd).trans rfl,hGW,hrefl W⟩
  | 14=>cases ho;exact wp_move' (.tmp 5) rfl ⟨_,rfl,(hoff 5 kd).trans rfl,hGW,hrefl W⟩
  | 15=>cases ho;exact wp_move' (.tmp 1) rfl ⟨_,rfl,(hoff 1 kd).trans rfl,hGW,hrefl W⟩
  | 16=>
   cases ho
   have hv15:OfferV2 lb gp rb 15 (U 15) W:=hp ⟨15,.data⟩ (by simp) rfl
   have ht15:=act_tmp (hat 15 31 kd rfl);clear hat hoff hp;rw [hv15] at ht15
   exact Y53
  | 17=>cases ho;exact wp_move' (.tmp 5) rfl ⟨_,rfl,(hoff 5 kd).trans rfl,hGW,hrefl W⟩
  | 18=>
   cases ho
   have hv17:OfferV2 lb gp rb 17 (U 17) W:=hp ⟨17,.data⟩ (by simp) rfl
   have ht17:=act_tmp (hat 17 33 kd rfl);clear hat hoff hp;rw [hv17] at ht17
   exact wp_value' (.int .i64 10) W (by unfold execOp;go_simp;first|done|decide) ⟨_,rfl,rfl,hGW,hrefl W⟩
  | 19=>
   cases ho
   have hv16:OfferV2 lb gp rb 16 (U 16) W:=hp ⟨16,.data⟩ (by simp) rfl
   have ht16:=act_tmp (hat 16 32 kd rfl)
   have hv18:OfferV2 lb gp rb 18 (U 18) W:=hp ⟨18,.data⟩ (by simp) rfl
   exact Y164
  | 20=>
   cases ho
   have hv13:OfferV2 lb gp rb 13 (U 13) W:=hp ⟨13,.data⟩ (by simp) rfl
   have ht13:=act_tmp (hat 13 29 kd rfl)
   have hv14:OfferV2 lb gp rb 14 (U 14) W:=hp ⟨14,.data⟩ (by simp) rfl
   have ht14:=act_tmp (hat 14 30 kd rfl)
   have hv19:OfferV2 lb gp rb 19 (U 19) W:=hp ⟨19,.data⟩ (by simp) rfl
   have ht19:=act_tmp (hat 19 35 kd rfl);clear hat hoff hp;rw [hv13] at ht13;rw [hv14] at ht14;rw [hv19] at ht19
   exact wp_value' (.slice (some ⟨gp,0,none⟩) 0 0) W (by unfold execOp;go_simp) ⟨_,rfl,rfl,hGW,hrefl W⟩
  | 21=>
   cases ho
   have hv20:OfferV2 lb gp rb 20 (U 20) W:=hp ⟨20,.data⟩ (by simp) rfl
   have ht20:=act_tmp (hat 20 36 kd rfl);clear hat hoff hp;rw [hv20] at ht20
   refine wp_enter' 62 #[.slice (some ⟨gp,0,none⟩) 0 0] (by unfold execOp;go_simp) ?_
   refine (copied_bare ⟨gp,0,none⟩ 0 0 (awOps.drop 2) W (((HD2.out).below hGW.1).more hGW.1.size) (by omega) (fun o ho=>awOps_bare o (List.mem_of_mem_drop ho))).mono ?_
   exact Y65
  | 22=>
   cases ho
   have hv3:OfferV2 lb gp rb 3 (U 3) W:=hp ⟨3,.data⟩ (by simp) rfl
   have ht3:=act_tmp (hat 3 19 kd rfl)
   have hv7:OfferV2 lb gp rb 7 (U 7) W:=hp ⟨7,.data⟩ (by simp) rfl
   have ht7:=act_tmp (hat 7 23 kd rfl)
   have hv12:OfferV2 lb gp rb 12 (U 12) W:=hp ⟨12,.data⟩ (by simp) rfl
   have ht12:=act_tmp (hat 12 28 kd rfl)
   have hv21:OfferV2 lb gp rb 21 (U 21) W:=hp ⟨21,.data⟩ (by simp) rfl
   have ht21:=act_tmp (hat 21 37 kd rfl);clear hat hoff hp;obtain⟨g,c',hg⟩:=hv21;rw [hv3] at ht3;rw [hv7] at ht7;rw [hv12] at ht12;rw [hg] at ht21
   exact wp_value' (.agg (mailC 9 0 0 0 0 false none 0 0 ⟨#[]⟩ none 0 0 1 0 2 1 0 0 none 0 0 (some ⟨g,0,none⟩) 0 c')) W (by unfold execOp;go_simp) ⟨_,rfl,⟨g,c',rfl⟩,hGW,hrefl W⟩
  | 23=>
   cases ho
   have hv22:OfferV2 lb gp rb 22 (U 22) W:=hp ⟨22,.data⟩ (by simp) rfl
   have ht22:=act_tmp (hat 22 38 kd rfl);have hrb4:=ow 4 HRB;clear hat hoff hp;obtain⟨g,c',hg⟩:=hv22;rw [hg] at ht22;have hrbt:=act_tmp (hrb4);obtain⟨a0,a1,a2,a3,a4,a5,a6,a7,a8,a9,a10,a11,a12,a13,a14,a15,a16,hbk⟩:=hGW.2.2;have f0:=hbk.frozen;obtain⟨d0,d1,d2,d3,d4,d5,d6,d7,d8,d9,d10,d11,d12,d13,d14,d15,d16⟩:=hbk.cs 0 17
   refine wp_skip' (putCells W rb 0 (mailC 9 0 0 0 0 false none 0 0 ⟨#[]⟩ none 0 0 1 0 2 1 0 0 none 0 0 (some ⟨g,0,none⟩) 0 c').toList) (by unfold execOp;go_simp;rfl) ?_
   exact⟨_,rfl,⟨g,c',putCells_blk hbk rfl⟩,⟨putCells_below (by rw [HRB.out];exact Nat.le_refl _) _ _ _ _ hGW.1,by rw [putCells_size];exact hGW.2.1,⟨_,_,_,_,_,_,_,_,_,_,_,_,_,_,_,_,_,putCells_blk (l:=(mailC 9 0 0 0 0 false none 0 0 ⟨#[]⟩ none 0 0 1 0 2 1 0 0 none 0 0 (some ⟨g,0,none⟩) 0 c').toList) hbk rfl⟩⟩,putCells_save _ _ _ _,by rw [putCells_size];exact Nat.le_refl _,fun _=>⟨g,c',putCells_blk hbk rfl⟩⟩
  | i+24=>exact absurd ho (by simp)
 case hend=>
  intro U W hGW hV
  have h23:=hV 23 kd
  obtain⟨g,c',hbk⟩:=h23
  obtain⟨HK,HW⟩:=J2 hbk hGW.1
  have hrb:=HRB.out
  clear hV hGW hbk
  simp [putU,dstAt,Act.put,Exit.then]
  go_wp2
  have hk:=HK.out
  rw [HRB.out] at hk
  obtain⟨e0,e1,e2,e3,e4,e5,e6,e7,e8,e9,e10,e11,e12,e13,e14,e15,e16⟩:=hk.cs 0 17
  refine bodyPost_ret (v:=.agg (mailC 9 0 0 0 0 false none 0 0 ⟨#[]⟩ none 0 0 1 0 2 1 0 0 none 0 0 (some ⟨g,0,none⟩) 0 c')) (by simp [results,results26,e0,e1,e2,e3,e4,e5,e6,e7,e8,e9,e10,e11,e12,e13,e14,e15,e16,go_sem]) rfl ?_
  exact⟨⟨g,c',rfl⟩,HW.out⟩
end Go.Proofs.Ytaipgdhdfpemcaa
