/- THE WALKS OF THE LANE, part 54. -/
import Derived.Test.YtaipgdhdfpemcaaF18
import Derived.Test.YtaipgdhdfpemcaaF43
import Derived.Test.YtaipgdhdfpemcaaF50
import Derived.Test.YtaipgdhdfpemcaaF53
namespace Go.Proofs.Ytaipgdhdfpemcaa
set_option linter.all false
open Go.RowKit Go.Proofs.Try
set_option maxRecDepth 100000
set_option maxHeartbeats 4000000
section
variable {mc:Array Value} {fence sE sN:Int} {holes:List Int} {os:List OpC} {m:MailC} {p:MailC×CmdC×Int} {B b g jc jn k kk rb:Nat} {Sj Sm Y Y1 Y2:Nat->Prop} {jA:O} {WW w:World}
theorem meet_led (w:World) (h:LedIs w B g Y k os fence) (hm:MailIs w Sm mc m) (hi:IntIs w Sj jA jn jc holes) (hmz:m.ops.length<=4294967295) (hok:m.Ok) (hsN:I64 sN) (hsE:I64 sE) (hjz:holes.length*8<=140737488351232) (hj:∀ z∈holes,I64 z) :
 Calls prog 16 #[.pointer (some ⟨g,0,none⟩),.agg mc,.agg #[sN,sE,.slice jA jn jc]] w (MeetR w (meetP os fence m sN sE holes)):=by
 obtain⟨m1,m2,pA,pn,pc,lA,ln,lc,settled,k1,k2,_,_⟩:=h.open_
 have hl:=k2.len
 have hr:=h.rows.len
 exact meet_any w k1 rfl rfl rfl rfl k2 (by omega) h.rows.ok hm hi (by omega) hok hsN hsE hjz hj rfl rfl
theorem rmeet_led (w:World) (h:RLedIs w B b Y k os fence) (hm:MailIs w Sm mc m) (hi:IntIs w Sj jA jn jc holes) (hmz:m.ops.length<=4294967295) (hok:m.Ok) (hsN:I64 sN) (hsE:I64 sE) (hjz:holes.length*8<=140737488351232) (hj:∀ z∈holes,I64 z) :
 Calls prog 18 #[.pointer (some ⟨b,0,none⟩),.agg mc,.agg #[sN,sE,.slice jA jn jc]] w (MeetR w (meetP os fence m sN sE holes)):=by
 obtain⟨A,n,c,lA,ln,lc,st,k1,k2⟩:=h.open_
 have hl:=k2.len
 have hr:=h.rows.len
 exact rmeet_any w k1 k2 hm hi (by omega) hmz hok hsN hsE hjz hj
theorem ms14 (Q:Z) (a:Act) (hfr:Fr 116 a [(4,(WW:Nat)),(5,(WW.heap.size+1:Nat)),(7,g),(9,rb)]) (h:Ms WW w g rb Y1 Y2 kk os fence mc #[sN,sE,.slice jA jn jc]) (hm:MailIs w Sm mc m) (hi:IntIs w Sj jA jn jc holes) (hmz:m.ops.length<=4294967295) (hok:m.Ok) (hsN:I64 sN) (hsE:I64 sE) (hjz:holes.length*8<=140737488351232) (hj:∀ z∈holes,I64 z) (hp_:p=(meetP os fence m sN sE holes)) (hQ:∀ a' w' (b13:Nat) (b14:Nat) mc1 cc1,Fr 116 a' [(4,(WW:Nat)),(5,(WW.heap.size+1:Nat)),(7,g),(9,rb),(13,b13),(14,b14),(15,.int .i64 p.2.2)]->Blk w' b13 30 mc1->MailIs w' Any mc1 p.1->Blk w' b14 47 cc1->CmdIs w' Any cc1 p.2.1->Below w w w'->Q .normal a' w') :
 (part [1,1,1,1,1,1,0] (codeOf meetsF)).wp prog Q a w:=by
 have hdr:Below w w w.drew:=⟨rfl,rfl,rfl,Nat.le_refl _,fun _ _=>rfl⟩
 have hQ:∀ a' w' (b13:Nat) (b14:Nat) mc1 cc1,Fr 116 a' [(4,(WW:Nat)),(5,(WW.heap.size+1:Nat)),(7,g),(9,rb),(13,b13),(14,b14),(15,.int .i64 p.2.2)]->Blk w' b13 30 mc1->MailIs w' Any mc1 p.1->Blk w' b14 47 cc1->CmdIs w' Any cc1 p.2.1->Below w.drew.heap.size w.drew w'->Q .normal a' w':=fun a' w' b13 b14 mc1 cc1 h1 h2 h3 h4 h5 hb=>hQ a' w' b13 b14 mc1 cc1 h1 h2 h3 h4 h5 ⟨hb.os,hb.tape,hb.output,hb.size,hb.block⟩
 have h:=h.below hdr
 have hm:=hm.below hdr
 have hi:=hi.below hdr
 clear hdr
 obtain⟨w0,hw0⟩:∃ w0,w0=w.drew:=⟨_,rfl⟩
 rw [<-hw0] at hQ h hm hi
 obtain⟨HM,HMI,HI,HZ,HOK,HN,HE,HJZ,HJ⟩:=J9 h hm hi hmz hok hsN hsE hjz hj
 obtain⟨HP,HQ⟩:=J2 hp_ hQ
 clear h hm hi hmz hok hsN hsE hjz hj hp_ hQ
 refine gg hfr fun t=>?_
 generalize w=w1 at hw0 ⊢
 have HW0:=J hw0
 clear hw0
 refine wp_region_inv kr (fun L U W'=>∃ mc1 cc1,Z14 w0 g mc #[sN,sE,.slice jA jn jc] m p L U W' mc1 cc1) kr ?hI ?hstep ?hend
 case hI=>
  intro U
  have key:∀ W',W'=w0->∃ mc1 cc1,Z14 w0 g mc #[sN,sE,.slice jA jn jc] m p (fun _=>false) U W' mc1 cc1:=fun W' hW'=>by
   rw [hW']
   exact⟨#[],#[],Below.refl _ _,fun e=>absurd e (by decide),fun e=>absurd e (by decide),fun e=>absurd e (by decide),fun e=>absurd e (by decide),fun e=>absurd e (by decide),fun e=>absurd e (by decide),fun e=>absurd e (by decide),fun e=>absurd e (by decide),fun e=>absurd e (by decide),fun e=>absurd e (by decide),fun e=>absurd e (by decide),fun e=>absurd e (by decide),fun e=>absurd e (by decide),fun e=>absurd e (by decide),fun e=>absurd e (by decide),fun e=>absurd e (by decide),fun e=>absurd e (by decide),fun e=>absurd e (by decide),fun e=>absurd e (by decide),fun e=>absurd e (by decide)⟩
  exact key _ HW0.out.symm
 case hstep=>
  intro i o F L U W ho hIn hL hat hoff hp
  obtain⟨mc1,cc1,hZ⟩:=hIn
  match i with
  | 0=>
   cases ho;refine on_ (wanted_none rfl) ?_;have e7:=oo 7 g;have t7:=act_tmp e7
   exact wp_move' (.tmp 7) rfl ⟨_,rfl,mc1,cc1,hZ.upd 0 _ (Below.refl _ _) (by decide) hL (fun _=>e7) (fun e=>absurd e (by decide)) (fun e=>absurd e (by decide)) (fun e=>absurd e (by decide)) (fun e=>absurd e (by decide)) (fun e=>absurd e (by decide)) (fun e=>absurd e (by decide)) (fun e=>absurd e (by decide)) (fun e=>absurd e (by decide))⟩
  | 1=>
   cases ho;refine on_ (wanted_none rfl) ?_;have e4:=oo 4 (.pointer (some ⟨WW.heap.size,0,none⟩));have t4:=act_tmp e4
   exact wp_load_mail (.tmp 4) rfl e4 (HM.out.k4.below hZ.low HM.out.k4.lt) (HMI.out.below hZ.low) ⟨_,rfl,mc1,cc1,hZ.upd 1 _ (Below.refl _ _) (by decide) hL (fun e=>absurd e (by decide)) (fun _=>rfl) (fun e=>absurd e (by decide)) (fun e=>absurd e (by decide)) (fun e=>absurd e (by decide)) (fun e=>absurd e (by decide)) (fun e=>absurd e (by decide)) (fun e=>absurd e (by decide)) (fun e=>absurd e (by decide))⟩
  | 2=>
   cases ho;refine on_ (wanted_none rfl) ?_
   have l1:=hp ⟨1,.data⟩ (by simp) rfl
   have e79:F.eval (.tmp 79)=.agg mc:=(hat 1 79 kd rfl).trans (hZ.v1 l1);have t79:=act_tmp e79
   refine wp_enter' 17 #[.agg mc] (by unfold execOp;go_simp) ?_
   refine (own15_any mc m W (HMI.out.below hZ.low) HOK.out (by have:=HZ.out;omega)).mono ?_
   rintro e W' ⟨cs',rfl,hm',hb⟩
   exact⟨_,rfl,_,rfl,mc1,cc1,hZ.upd 2 _ hb (by decide) hL (fun e=>absurd e (by decide)) (fun e=>absurd e (by decide)) (fun _=>⟨cs',rfl,hm'.mono fun q _ hq=>Nat.le_trans hZ.low.size hq⟩) (fun e=>absurd e (by decide)) (fun e=>absurd e (by decide)) (fun e=>absurd e (by decide)) (fun e=>absurd e (by decide)) (fun e=>absurd e (by decide)) (fun e=>absurd e (by decide))⟩
  | 3=>
   cases ho;refine on_ (wanted_none rfl) ?_;have:=ot 5 (.pointer (some ⟨WW.heap.size+1,0,none⟩));have hk5:=HM.out.k5.below hZ.low HM.out.k5.lt;obtain⟨d0,d1,d2⟩:=hk5.cs 0 3
   exact wp_value' (.agg #[sN,sE,.slice jA jn jc]) W (by unfold execOp;go_simp) ⟨_,rfl,mc1,cc1,hZ.upd 3 _ (Below.refl _ _) (by decide) hL (fun e=>absurd e (by decide)) (fun e=>absurd e (by decide)) (fun e=>absurd e (by decide)) (fun _=>rfl) (fun e=>absurd e (by decide)) (fun e=>absurd e (by decide)) (fun e=>absurd e (by decide)) (fun e=>absurd e (by decide)) (fun e=>absurd e (by decide))⟩
  | 4=>
   cases ho;refine on_ (wanted_none rfl) ?_
   have l0:=hp ⟨0,.data⟩ (by simp) rfl
   have e78:F.eval (.tmp 78)=.pointer (some ⟨g,0,none⟩):=(hat 0 78 kd rfl).trans (hZ.v0 l0);have t78:=act_tmp e78
   have l2:=hp ⟨2,.data⟩ (by simp) rfl
   obtain⟨cs,hu2,hms⟩:=hZ.v2 l2 hL;have e80:F.eval (.tmp 80)=.agg cs:=(hat 2 80 kd rfl).trans hu2;have t80:=act_tmp e80
   have l3:=hp ⟨3,.data⟩ (by simp) rfl
   have e81:F.eval (.tmp 81)=.agg #[sN,sE,.slice jA jn jc]:=(hat 3 81 kd rfl).trans (hZ.v3 l3);have t81:=act_tmp e81
   refine wp_enter' 16 #[.pointer (some ⟨g,0,none⟩),.agg cs,.agg #[sN,sE,.slice jA jn jc]] (by unfold execOp;go_simp) ?_
   refine (meet_led W (HM.out.led.below hZ.low) hms (HI.out.below hZ.low) HZ.out HOK.out HN.out HE.out HJZ.out HJ.out).mono ?_
   rintro e W' ⟨mc2,cc2,rfl,hm2,hc2,hb⟩
   rw [<-HP.out] at hm2 hc2 ⊢;exact⟨_,rfl,_,rfl,mc2,cc2,hZ.met hb hL l2 hm2 hc2⟩
  | 5=>
   cases ho;refine on_ (wanted_none rfl) ?_
   have l4:=hp ⟨4,.data⟩ (by simp) rfl
   have e82:F.eval (.tmp 82)=(.tuple #[.agg mc1,.agg cc1,.int .i64 p.2.2]):=(hat 4 82 kd rfl).trans ((hZ.v4 l4).1);have t82:=act_tmp e82
   exact wp_move' (.tmp 82) rfl ⟨_,rfl,mc1,cc1,hZ.upd 5 _ (Below.refl _ _) (by decide) hL (fun e=>absurd e (by decide)) (fun e=>absurd e (by decide)) (fun e=>absurd e (by decide)) (fun e=>absurd e (by decide)) (fun _=>⟨l4,e82⟩) (fun e=>absurd e (by decide)) (fun e=>absurd e (by decide)) (fun e=>absurd e (by decide)) (fun e=>absurd e (by decide))⟩
  | 6=>
   cases ho;refine on_ (wanted_none rfl) ?_
   have l5:=hp ⟨5,.data⟩ (by simp) rfl
   have e77:F.eval (.tmp 77)=(.tuple #[.agg mc1,.agg cc1,.int .i64 p.2.2]):=(hat 5 77 kd rfl).trans (hZ.v5 l5);have t77:=act_tmp e77
   exact wp_value' (.agg mc1) W (by unfold execOp;go_simp) ⟨_,rfl,mc1,cc1,hZ.upd 6 _ (Below.refl _ _) (by decide) hL (fun e=>absurd e (by decide)) (fun e=>absurd e (by decide)) (fun e=>absurd e (by decide)) (fun e=>absurd e (by decide)) (fun e=>absurd e (by decide)) (fun _=>⟨l5,rfl⟩) (fun e=>absurd e (by decide)) (fun e=>absurd e (by decide)) (fun e=>absurd e (by decide))⟩
  | 7=>
   cases ho;refine on_ (wanted_none rfl) ?_
   have l5:=hp ⟨5,.data⟩ (by simp) rfl
   have e77:F.eval (.tmp 77)=(.tuple #[.agg mc1,.agg cc1,.int .i64 p.2.2]):=(hat 5 77 kd rfl).trans (hZ.v5 l5);have t77:=act_tmp e77
   exact wp_value' (.agg cc1) W (by unfold execOp;go_simp) ⟨_,rfl,mc1,cc1,hZ.upd 7 _ (Below.refl _ _) (by decide) hL (fun e=>absurd e (by decide)) (fun e=>absurd e (by decide)) (fun e=>absurd e (by decide)) (fun e=>absurd e (by decide)) (fun e=>absurd e (by decide)) (fun e=>absurd e (by decide)) (fun _=>⟨l5,rfl⟩) (fun e=>absurd e (by decide)) (fun e=>absurd e (by decide))⟩
  | 8=>
   cases ho;refine on_ (wanted_none rfl) ?_
   have l5:=hp ⟨5,.data⟩ (by simp) rfl
   have e77:F.eval (.tmp 77)=(.tuple #[.agg mc1,.agg cc1,.int .i64 p.2.2]):=(hat 5 77 kd rfl).trans (hZ.v5 l5);have t77:=act_tmp e77
   exact wp_value' (.int .i64 p.2.2) W (by unfold execOp;go_simp) ⟨_,rfl,mc1,cc1,hZ.upd 8 _ (Below.refl _ _) (by decide) hL (fun e=>absurd e (by decide)) (fun e=>absurd e (by decide)) (fun e=>absurd e (by decide)) (fun e=>absurd e (by decide)) (fun e=>absurd e (by decide)) (fun e=>absurd e (by decide)) (fun e=>absurd e (by decide)) (fun _=>⟨l5,rfl⟩) (fun e=>absurd e (by decide))⟩
  | 9=>
   cases ho;refine on_ (wanted_none rfl) ?_
   exact wp_value' (.pointer (some ⟨W.heap.size,0,none⟩)) (W.alloc (.cells noMail 30)) (by unfold execOp;go_simp) ⟨_,rfl,mc1,cc1,hZ.box9 hL⟩
  | 10=>
   cases ho;refine on_ (wanted_none rfl) ?_
   exact wp_value' (.pointer (some ⟨W.heap.size,0,none⟩)) (W.alloc (.cells noCmd 47)) (by unfold execOp;go_simp) ⟨_,rfl,mc1,cc1,hZ.box10 hL⟩
  | 11=>
   cases ho;refine on_ (wanted_none rfl) ?_
   have l9:=hp ⟨9,.data⟩ (by simp) rfl
   obtain⟨q,hu,hq,hk⟩:=hZ.v9 l9
   rw [hL,if_neg (by decide)] at hk
   have e13:F.eval (.tmp 13)=.pointer (some ⟨q,0,none⟩):=(hat 9 13 kd rfl).trans hu
   have l6:=hp ⟨6,.data⟩ (by simp) rfl
   have e83:F.eval (.tmp 83)=.agg mc1:=(hat 6 83 kd rfl).trans (hZ.v6 l6);have t83:=act_tmp e83
   exact wp_store_mail (.tmp 13) (.tmp 83) rfl e13 e83 hk (hZ.v4 (hZ.c5 (hZ.c6 l6))).2.1 fun hk'=>⟨_,rfl,mc1,cc1,hZ.put11 l9 l6 hu hk'⟩
  | 12=>
   cases ho;refine on_ (wanted_none rfl) ?_
   have l10:=hp ⟨10,.data⟩ (by simp) rfl
   obtain⟨q,hu,hq,hk⟩:=hZ.v10 l10
   rw [hL,if_neg (by decide)] at hk
   have e14:F.eval (.tmp 14)=.pointer (some ⟨q,0,none⟩):=(hat 10 14 kd rfl).trans hu
   have l7:=hp ⟨7,.data⟩ (by simp) rfl
   have e84:F.eval (.tmp 84)=.agg cc1:=(hat 7 84 kd rfl).trans (hZ.v7 l7);have t84:=act_tmp e84
   exact wp_store_cmd (.tmp 14) (.tmp 84) rfl e14 e84 hk (hZ.v4 (hZ.c5 (hZ.c7 l7))).2.2 fun hk'=>⟨_,rfl,mc1,cc1,hZ.put12 l10 l7 hu hk'⟩
  | 13=>
   cases ho;refine on_ (wanted_none rfl) ?_
   have l8:=hp ⟨8,.data⟩ (by simp) rfl
   have e85:F.eval (.tmp 85)=.int .i64 p.2.2:=(hat 8 85 kd rfl).trans (hZ.v8 l8);have t85:=act_tmp e85
   exact wp_assign' (.tmp 85) rfl ⟨_,rfl,mc1,cc1,hZ.upd 13 _ (Below.refl _ _) (by decide) hL (fun e=>absurd e (by decide)) (fun e=>absurd e (by decide)) (fun e=>absurd e (by decide)) (fun e=>absurd e (by decide)) (fun e=>absurd e (by decide)) (fun e=>absurd e (by decide)) (fun e=>absurd e (by decide)) (fun e=>absurd e (by decide)) (fun _=>⟨l8,e85⟩)⟩
  | i+14=>exact absurd ho (by simp)
 case hend=>
  intro U L W hIn hall
  obtain⟨mc1,cc1,hZ⟩:=hIn
  obtain⟨b13,u9,_,k9⟩:=hZ.v9 (hall 9 (by decide))
  obtain⟨b14,u10,_,k10⟩:=hZ.v10 (hall 10 (by decide))
  rw [if_pos (hall 11 (by decide))] at k9
  rw [if_pos (hall 12 (by decide))] at k10
  have u13:=hZ.v13 (hall 13 (by decide))
  obtain⟨_,q1,q2⟩:=hZ.v4 (hall 4 (by decide))
  have hl:=hZ.low
  clear hZ hall
  simp [putU,dstAt,Act.put]
  exact HQ.out _ W b13 b14 mc1 cc1 ⟨rfl,rfl,rfl,rfl,rfl,rfl,u9,u10,u13,trivial⟩ k9 (q1.mono fun _ _ _=>trivial) k10 (q2.mono fun _ _ _=>trivial) hl
end
section
variable {c1 c2 m1 m2 mc:Array Value} {fence sE sN wh:Int} {holes:List Int} {os:List OpC} {m:MailC} {p:MailC×CmdC×Int} {B b13 b14 b16 b17 g jc jn kk rb sc sn:Nat} {Sj Sm Y1 Y2:Nat->Prop} {jA sA:O} {W WW w:World}
theorem meetP_ok (hr:Rows os) (hf:0<=fence/\fence<=16) (hok:m.Ok) (hsN:I64 sN) (hsE:I64 sE) (hjz:holes.length*8<=140737488351232) (hj:∀ z∈holes,I64 z) :
 (meetP os fence m sN sE holes).1.Ok/\(meetP os fence m sN sE holes).2.1.Ok:=by
 have z:I64 0:=⟨by omega,by omega⟩
 have hl:=hr.len
 have oz:opZ.Ok:=⟨z,z,z,z,z,z,Nat.zero_le _,z,Nat.zero_le _⟩
 have cz:cmdZ.Ok:=⟨z,z,z,oz,z,z,Nat.zero_le _,fun _ h=>(by cases h),z⟩
 have mz:mailZ.Ok:=⟨z,z,z,z,z,Nat.zero_le _,Nat.zero_le _,Nat.zero_le _,z,z,z,z,z,z,Nat.zero_le _,fun _ h=>(by cases h),Nat.zero_le _,fun _ h=>(by cases h)⟩
 have e0:([]:List Int).length*8<=140737488351232:=Nat.zero_le _
 have e1:∀ z∈([]:List Int),I64 z:=fun _ h=>(by cases h)
 have hen:=endC_ok hok.atN hok.atE hok.op
 unfold meetP
 split
 ·split
  ·exact⟨ansM_ok (i64_le (by omega) (by omega)) z z z z e0 e1,cz⟩
  ·split
   ·refine⟨ansM_ok hok.epoch ?_ ?_ z z e0 e1,cz⟩
    ·have : Seam.hintN (os.map (·.epoch)) m.atN m.atE <= 80 := by
      unfold Seam.hintN
      split
      ·omega
      ·have:=(Seam.upTo_le (os.map (·.epoch)) (m.atN-1) m.atE).2
       rw [List.length_map] at this
       omega
     exact i64_le (by omega) (by omega)
    ·unfold Seam.ep
     split
     ·exact z
     ·rw [List.getD_eq_getElem?_getD,List.getElem?_map]
      cases hx:os[Seam.hintN (os.map (·.epoch)) m.atN m.atE-1]? with
      | none=>exact z
      | some o=>exact (hr.ok o (List.mem_of_getElem? hx)).epoch
   ·split
    ·refine⟨?_,cz⟩
     dsimp only
     split
     ·exact ansM_ok hok.epoch hen.1 hen.2 hsN hsE hjz hj
     ·exact ansM_ok hok.epoch hen.1 hen.2 z z e0 e1
    ·exact⟨mz,⟨show I64 3 from i64_le (by omega) (by omega),hok.epoch,hok.site,oz,hok.atN,hok.atE,hok.ops,hok.op,z⟩⟩
 ·exact⟨mz,cz⟩
theorem ms13 (hjz:holes.length*8<=140737488351232) (Q:Z) (a:Act) (hfr:Fr 116 a [(4,(W:Nat)),(5,(W.heap.size+1:Nat)),(7,g),(9,rb)]) (h:Ms W w g rb Y1 Y2 kk os fence mc #[sN,sE,.slice jA jn jc]) (hi:IntIs w Sj jA jn jc holes) (hQ:∀ a' w' A' c',Fr 116 a' [(4,(W:Nat)),(5,(W.heap.size+1:Nat)),(7,g),(9,rb)]->Ms W w' g rb Y1 Y2 kk os fence mc #[sN,sE,.slice A' jn c']->IntIs w' Any A' jn c' holes->Q .normal a' w') :
 (part [1,1,1,1,1,0] (codeOf meetsF)).wp prog Q a w:=by
 have hl:=hi.len
 have hsz:=h.sz
 have hb0:Below w w (w.alloc (.cells #[] 3)):=(Below.refl _ _).alloc (Nat.le_refl _) _
 have c2:=h.k5.c1 2
 have c2':(w.alloc (.cells #[] 3)).cell? ⟨W.heap.size+1,2,none⟩=some (.slice jA jn jc):=by
  have:=(h.k5.below hb0 h.k5.lt).cell 2
  simpa using this
 have HI:=J (hi.below hb0)
 have HZ:=J (show jn*8<=140737488351232 by omega)
 obtain⟨HB0,HM,HQ⟩:=J3 hb0 h hQ
 clear hQ h hi hb0 hl hjz
 refine gg hfr fun t=>?_
 refine wp_region_lit ?_
 refine wpList_value' rfl (.slice (some ⟨w.heap.size,0,none⟩) 0 0) (w.alloc (.cells #[] 3)) (by unfold execOp;go_simp) ?_
 go_wp2_with (at_builtin;refine wpList_plain rfl fun _ hK=>wp_append_ints (.tmp 72) (.tmp 74) rfl ⟨w.heap.size,0,none⟩ rfl rfl HI.out HZ.out fun A' c' w2 hi hb=>hK _ _ ?_;have h2:=HM.out.k5.below (HB0.out.trans (hb.mono HB0.out.size)) HM.out.k5.lt;have d15:=h2.cell 2;simp at d15;have f15:=h2.frozen 2;have HI2:=J hi;have HB2:=J hb;clear hi hb h2)
 have hb2:=HB0.out.trans (HB2.out.mono HB0.out.size)
 have hm:=HM.out.below hb2
 have hs2:=hb2.size
 have hl1:=hm.led.1
 have hl2:=hm.ref.1
 have hk:Kept (fun q=>q≠W.heap.size+1) w2 (w2.setCell ⟨W.heap.size+1,2,none⟩ (.slice A' jn c')):=(Kept.refl _ _).set_ ⟨W.heap.size+1,2,none⟩ (.inl fun h=>h rfl) _
 have hs0:(w.alloc (.cells #[] 3)).heap.size=w.heap.size+1:=by simp
 refine HQ.out _ _ A' c' ff ⟨hm.k4.keptB hk (by show W.heap.size≠W.heap.size+1;omega),hm.k5.set_ 2 _,hm.led.kept (hk.mono fun q _ hy=>(show q≠W.heap.size+1 from by have:=(hl1 q hy).1;omega)),hm.ref.kept (hk.mono fun q _ hy=>(show q≠W.heap.size+1 from by have:=(hl2 q hy).1;omega)),hm.dis,hm.fb,hm.low.setCell (p:=⟨W.heap.size+1,2,none⟩) (by show W.heap.size<=W.heap.size+1;omega) _,by rw [setCell_size];omega⟩ ((HI2.out.kept (hk.mono fun q _ hq=>(show q≠W.heap.size+1 from by have:(w.alloc (.cells #[] 3)).heap.size<=q:=hq;omega))).mono fun _ _ _=>trivial)
theorem ms15 (Q:Z) (a:Act) (hfr:Fr 116 a [(4,(W:Nat)),(5,(W.heap.size+1:Nat)),(7,g),(9,rb),(13,b13),(14,b14),(15,wh)]) (h:Ms W w g rb Y1 Y2 kk os fence mc #[sN,sE,.slice jA jn jc]) (hm:MailIs w Sm mc m) (hi:IntIs w Sj jA jn jc holes) (hmz:m.ops.length<=4294967295) (hok:m.Ok) (hsN:I64 sN) (hsE:I64 sE) (hjz:holes.length*8<=140737488351232) (hj:∀ z∈holes,I64 z) (hp_:p=(meetP os fence m sN sE holes)) (hQ:∀ a' w' (b16:Nat) (b17:Nat) mc1 cc1,Fr 116 a' [(4,(W:Nat)),(5,(W.heap.size+1:Nat)),(7,g),(9,rb),(13,b13),(14,b14),(15,wh),(16,b16),(17,b17),(18,.int .i64 p.2.2)]->Blk w' b16 30 mc1->MailIs w' Any mc1 p.1->Blk w' b17 47 cc1->CmdIs w' Any cc1 p.2.1->Below w w w'->Q .normal a' w') :
 (part [1,1,1,1,1,1,1,0] (codeOf meetsF)).wp prog Q a w:=by
 obtain⟨d0,d1,d2⟩:=h.k5.cs 0 3
 have HMT:=J (rmeet_led w h.ref hm hi hmz hok hsN hsE hjz hj)
 rw [<-hp_] at HMT
 obtain⟨H4,HMI,HQ⟩:=J3 h.k4 hm hQ
 clear hQ h hm hi hmz hok hsN hsE hjz hj hp_
 refine gg hfr fun t=>?_
 go_wp2_with (refine wpList_plain rfl fun _ hK=>wp_load_mail (.tmp 4) rfl rfl H4.out HMI.out (hK _ _ ?_))
 refine HMT.out.mono ?_
 rintro e w2 ⟨mc1,cc1,rfl,hm1,hc1,hb2⟩
 dsimp only
 have hn16:=Blk.new w2 30 noMail
 have h16:=hn16.alloc (.cells noCmd 47)
 have hn17:=Blk.new (w2.alloc (.cells noMail 30)) 47 noCmd
 rw [show (w2.alloc (.cells noMail 30)).heap.size=w2.heap.size+1 by simp] at hn17
 have hba:Below w2 w2 ((w2.alloc (.cells noMail 30)).alloc (.cells noCmd 47)):=((Below.refl _ _).alloc (Nat.le_refl _) _).alloc (by simp) _
 have HBA:=J hba
 have h17:=(save_setCells ((w2.alloc (.cells noMail 30)).alloc (.cells noCmd 47)) w2.heap.size 0 mc1.toList).blk hn17 (by omega)
 obtain⟨H16,H17,HM1,HC1,HB2⟩:=J5 h16 h17 hm1 hc1 hb2
 clear hn16 h16 hn17 h17 hm1 hc1 hb2 hba
 go_wp2_with (first|refine wpList_plain rfl fun _ hK=>wp_store_mail (.tmp 16) (.tmp 91) rfl rfl rfl H16.out HM1.out fun hk16=>hK _ _ ?_|refine wpList_plain rfl fun _ hK=>wp_store_cmd (.tmp 17) (.tmp 92) rfl rfl rfl H17.out HC1.out fun hk17=>hK _ _ ?_)
 have hk16':=(save_setCells (((w2.alloc (.cells noMail 30)).alloc (.cells noCmd 47)).setCells w2.heap.size 0 mc1.toList) (w2.heap.size+1) 0 cc1.toList).blk hk16 (by omega)
 have hkk:Kept (fun q=>q<w2) w2 ((((w2.alloc (.cells noMail 30)).alloc (.cells noCmd 47)).setCells w2.heap.size 0 mc1.toList).setCells (w2.heap.size+1) 0 cc1.toList):=((Kept.of _ HBA.out).cells w2.heap.size 0 (.inr (Nat.le_refl _)) _).cells (w2.heap.size+1) 0 (.inr (by omega)) _
 have hb3:=below_setCells (b:=w2.heap.size+1) (by omega) (below_setCells (b:=w2.heap.size) (Nat.le_refl _) HBA.out 0 mc1.toList) 0 cc1.toList
 exact HQ.out _ _ w2.heap.size (w2.heap.size+1) mc1 cc1 ff hk16' (((HM1.out.mono (S':=fun q=>q<w2) fun q hq _=>hq).kept hkk).mono fun _ _ _=>trivial) hk17 (((HC1.out.mono (S':=fun q=>q<w2) fun q hq _=>hq).kept hkk).mono fun _ _ _=>trivial) (HB2.out.trans (hb3.mono HB2.out.size))
theorem ms16 (a:Act) (hfr:Fr 116 a [(7,g),(9,rb),(13,b13),(14,b14),(15,wh),(16,b16),(17,b17),(18,wh)]) (hled:LedIs w B g Y1 kk os fence) (href:RLedIs w B rb Y2 kk os fence) (hok:p.1.Ok/\p.2.1.Ok) (hX:Blk w b13 30 m1/\MailIs w Any m1 p.1/\Blk w b16 30 m2/\MailIs w Any m2 p.1/\Blk w b14 47 c1/\CmdIs w Any c1 p.2.1/\Blk w b17 47 c2/\CmdIs w Any c2 p.2.1) (hb:Below WW WW w) :
 (part [1,1,1,1,1,1,1,1] (codeOf meetsF)).wp prog (bodyPost prog meetsF (fun e w'=>e=.returned (.bool true)/\Below WW WW w')) a w:=by
 obtain⟨q1,q2,pA,pn,pc,lA,ln,lc,settled,k1,k2,_,_⟩:=hled.open_
 obtain⟨rA,rn,rc,lA',ln',lc',st,k3,k4⟩:=href.open_
 have hl:=k2.len
 have hr:=hled.rows.len
 have hL:=And.intro k1.drew (And.intro (show OpsIs w.drew Y1 pA pn pc os from k2.below ⟨rfl,rfl,rfl,Nat.le_refl _,fun _ _=>rfl⟩) (And.intro (show pn<=4294967296 by omega) hled.rows.ok))
 have hR:=And.intro k3.drew (show OpsIs w.drew Y2 rA rn rc os from k4.below ⟨rfl,rfl,rfl,Nat.le_refl _,fun _ _=>rfl⟩)
 have hX:Blk w.drew b13 30 m1/\MailIs w.drew Any m1 p.1/\Blk w.drew b16 30 m2/\MailIs w.drew Any m2 p.1/\Blk w.drew b14 47 c1/\CmdIs w.drew Any c1 p.2.1/\Blk w.drew b17 47 c2/\CmdIs w.drew Any c2 p.2.1:=by
  have hd:Below w w w.drew:=⟨rfl,rfl,rfl,Nat.le_refl _,fun _ _=>rfl⟩
  exact⟨hX.1.drew,hX.2.1.below hd,hX.2.2.1.drew,hX.2.2.2.1.below hd,hX.2.2.2.2.1.drew,hX.2.2.2.2.2.1.below hd,hX.2.2.2.2.2.2.1.drew,hX.2.2.2.2.2.2.2.below hd⟩
 have hbd:=hb.drew
 clear k1 k2 k3 k4 hled href hl hr hb
 refine w2 ?_
 obtain⟨w0,hw0⟩:∃ w0,w0=w.drew:=⟨_,rfl⟩
 rw [<-hw0] at hL hR hX hbd
 obtain⟨HL,HRF,HX,HBD,HOK⟩:=J5 hL hR hX hbd hok
 clear hL hR hX hbd hok
 refine gg hfr fun t=>?_
 generalize w=w1 at hw0 ⊢
 have HW0:=J hw0
 clear hw0
 refine wp_region_all kr (fun i v W=>match i with|0=>v=wh|1=>v=wh|2=>v=.bool true|3=>v=.bool true|4=>v=.agg m1|5=>v=.agg m2|6=>v=.bool true|7=>v=.bool true|8=>v=.bool true|9=>v=.agg c1|10=>v=.agg c2|11=>v=.bool true|12=>v=.bool true|13=>v=.bool true|14=>v=g|15=>∃ A' c',v=.slice A' pn c'/\OpsIs W Any A' pn c' os|16=>v=rb|17=>v=rb|18=>v=rb|19=>v=.slice rA rn rc|20=>v=.bool true|21=>v=.bool true|22=>v=.bool true|_=>True) (fun W=>Below w0 w0 W) (fun W W'=>Below W W W') kr ?hG ?hmono ?hstep ?hend
 case hG=>exact (show ∀ W,W=w0->Below w0 w0 W from fun W h=>by rw [h];exact Below.refl _ _) _ HW0.out.symm
 case hmono=>
  intro i v W W' hx hv
  match i with
  | 15=>
   obtain⟨A',c',rfl,hi⟩:=hv
   exact⟨A',c',rfl,hi.below hx⟩
  | 0|1|2|3|4|5|6|7|8|9|10|11|12|13|14|16|17|18|19|20|21|22=>exact hv
  | i+23=>exact hv
 case hstep=>
  intro i o F U W ho hGW hat hoff hp
  have hrefl:=fun W:World=>Below.refl W.heap.size W
  have:=ot 7 g
  have:=ot 9 rb
  have e13:=oo 13 b13
  have t13:=act_tmp e13
  have e14:=oo 14 b14
  have t14:=act_tmp e14
  have:=ot 15 wh
  have e16:=oo 16 b16
  have t16:=act_tmp e16
  have e17:=oo 17 b17
  have t17:=act_tmp e17
  have:=ot 18 wh
  obtain⟨qa,qb⟩:=J2 hat hp
  clear hat hoff hp
  match i with
   | 0|1=>cases ho;exact vna
   | 2=>cases ho;have:=tx 0 94;have:=tx 1 95;exact vna
   | 3=>cases ho;have:=tx 2 96;exact vna
   | 4=>cases ho;refine onv 3 97 ?_;exact wp_load_mail (.tmp 13) rfl e13 (HX.out.1.below hGW HX.out.1.lt) (HX.out.2.1.below hGW) ⟨_,rfl,rfl,hGW,hrefl W⟩
   | 5=>cases ho;refine onv 3 97 ?_;exact wp_load_mail (.tmp 16) rfl e16 (HX.out.2.2.1.below hGW HX.out.2.2.1.lt) (HX.out.2.2.2.1.below hGW) ⟨_,rfl,rfl,hGW,hrefl W⟩
   | 6=>
    cases ho;refine onv 3 97 ?_;have:=tx 4 98;have:=tx 5 99
    refine wp_enter' 19 #[.agg m1,.agg m2] (by unfold execOp;go_simp) ?_
    refine (same15_any m1 m2 p.1 W (HX.out.2.1.below hGW) (HX.out.2.2.2.1.below hGW) HOK.out.1).mono ?_
    exact Y65
   | 7=>cases ho;have:=tx 3 97;have:=tx 6 100;exact vna
   | 8=>cases ho;have:=tx 7 101;exact vna
   | 9=>cases ho;refine onv 8 102 ?_;exact wp_load_cmd (.tmp 14) rfl e14 (HX.out.2.2.2.2.1.below hGW HX.out.2.2.2.2.1.lt) (HX.out.2.2.2.2.2.1.below hGW) ⟨_,rfl,rfl,hGW,hrefl W⟩
   | 10=>cases ho;refine onv 8 102 ?_;exact wp_load_cmd (.tmp 17) rfl e17 (HX.out.2.2.2.2.2.2.1.below hGW HX.out.2.2.2.2.2.2.1.lt) (HX.out.2.2.2.2.2.2.2.below hGW) ⟨_,rfl,rfl,hGW,hrefl W⟩
   | 11=>
    cases ho;refine onv 8 102 ?_;have:=tx 9 103;have:=tx 10 104
    refine wp_enter' 20 #[.agg c1,.agg c2] (by unfold execOp;go_simp) ?_
    refine (same11_any c1 c2 p.2.1 W (HX.out.2.2.2.2.2.1.below hGW) (HX.out.2.2.2.2.2.2.2.below hGW) HOK.out.2).mono ?_
    exact Y65
   | 12=>cases ho;have:=tx 8 102;have:=tx 11 105;exact vna
   | 13=>cases ho;have:=tx 12 106;exact vna
   | 14|16=>cases ho;refine onv 13 107 ?_;exact vla
   | 15=>
    cases ho;refine onv 13 107 ?_;have:=tx 14 108
    refine wp_enter' 22 #[.pointer (some ⟨g,0,none⟩)] (by unfold execOp;go_simp) ?_
    refine (opsLed_any W (HL.out.1.below hGW HL.out.1.lt) rfl (HL.out.2.1.below hGW) HL.out.2.2.1 HL.out.2.2.2).mono ?_
    rintro e W' ⟨A',c',rfl,hi,hb⟩
    exact⟨_,rfl,_,rfl,⟨A',c',rfl,hi.mono fun _ _ _=>trivial⟩,hGW.trans (hb.mono hGW.size),hb⟩
   | 17=>cases ho;refine onv 13 107 ?_;have:=tx 16 110;exact vla
   | 18=>cases ho;refine onv 13 107 ?_;have:=tx 17 111;exact vla
   | 19=>cases ho;refine onv 13 107 ?_;have:=tx 18 112;have d:=(HRF.out.1.below hGW HRF.out.1.lt).cell 0;simp at d;exact vla
   | 20=>
    cases ho;refine onv 13 107 ?_;have e109:=qa.out 15 109 kd rfl
    have v109:=qb.out ⟨15,.data⟩ (by simp) rfl
    have:=tx 19 113;obtain⟨A',c',hu,hi⟩:=v109;rw [hu] at e109;have t109:=act_tmp e109
    refine wp_enter' 21 #[.slice A' pn c',.slice rA rn rc] (by unfold execOp;go_simp) ?_
    refine (sameOps_any W hi (HRF.out.2.below hGW) (by have:=HL.out.2.2.1;omega) (fun o ho=>by have:=(HL.out.2.2.2 o ho).hs;omega)).mono ?_
    exact Y65
   | 21=>cases ho;have:=tx 13 107;have:=tx 20 114;exact vna
   | 22=>cases ho;have:=tx 21 115;exact vna
   | i+23=>exact absurd ho (by simp)
 case hend=>
  intro U W hGW hV
  have hr:U 22=.bool true:=hV 22 kd
  have HB:=J (HBD.out.trans (hGW.mono HBD.out.size))
  have HRR:=J hr
  clear hV hGW hr
  have e:part [1,1,1,1,1,1,1,1,1] (codeOf meetsF)=Code.ret:=by kernel_rfl
  show (part [1,1,1,1,1,1,1,1,1] (codeOf meetsF)).wp prog _ _ _
  rw [e]
  refine wp_ret ?_
  refine bodyPost_ret (results_tmp rfl _ _ _) (by simp [putU,dstAt,Act.put]) ⟨?_,HB.out⟩
  simp [putU,dstAt,Act.put,HRR.out]
theorem ms_rest (xs:List CmdX) (a:Act) (hfr:Fr 116 a [(0,.slice sA sn sc),(4,(W:Nat)),(5,(W.heap.size+1:Nat)),(7,g),(9,rb)]) (h:Ms W w g rb Y1 Y2 0 [] 0 mc #[sN,sE,.slice jA jn jc]) (hcs:CmdsIs W Any sA sn xs) (hsn:sn<=100) (hm:MailIs W Any mc m) (hi:IntIs W Any jA jn jc holes) (hmz:m.ops.length<=4294967295) (hok:m.Ok) (hsN:I64 sN) (hsE:I64 sE) (hjz:holes.length*8<=140737488351232) (hj:∀ z∈holes,I64 z) :
 (part [1,1,1,1] (codeOf meetsF)).wp prog (bodyPost prog meetsF (fun e w'=>e=.returned (.bool true)/\Below W W w')) a w:=by
 refine Ytaipgdhdfpemcaa.w2 ?_
 refine msloop xs a hfr h hcs hsn (by exact fun a' w' hq=>hq) fun a1 w1 Y1' Y2' kk os fence hkk hf1 h1=>?_
 show (part [1,1,1,1,1] (codeOf meetsF)).wp prog _ a1 w1
 refine Ytaipgdhdfpemcaa.w2 ?_
 refine ms13 hjz _ a1 hf1 h1 (hi.below h1.low) fun a2 w2 A2 c2 hf2 h2 hi2=>?_
 show (part [1,1,1,1,1,1] (codeOf meetsF)).wp prog _ a2 w2
 refine Ytaipgdhdfpemcaa.w2 ?_
 refine ms14 _ a2 hf2 h2 (hm.below h2.low) hi2 hmz hok hsN hsE hjz hj rfl fun a3 w3 b13 b14 m1 c1 hf3 k13 q13 k14 q14 hb3=>?_
 show (part [1,1,1,1,1,1,1] (codeOf meetsF)).wp prog _ a3 w3
 have h3:=h2.below hb3
 refine Ytaipgdhdfpemcaa.w2 ?_
 refine ms15 _ a3 hf3 h3 (hm.below h3.low) (hi2.below hb3) hmz hok hsN hsE hjz hj rfl fun a4 w4 b16 b17 m2 c2' hf4 k16 q16 k17 q17 hb4=>?_
 show (part [1,1,1,1,1,1,1,1] (codeOf meetsF)).wp prog _ a4 w4
 have h4:=h3.below hb4
 obtain⟨hd,hs,f4,f5,f7,f9,f13,f14,f15,f16,f17,f18,-⟩:=hf4
 exact ms16 a4 ⟨hd,hs,f7,f9,f13,f14,f15,f16,f17,f18,trivial⟩ h4.led h4.ref (meetP_ok h4.led.rows h4.fb hok hsN hsE hjz hj) ⟨k13.below hb4 k13.lt,q13.below hb4,k16,q16,k14.below hb4 k14.lt,q14.below hb4,k17,q17⟩ h4.low
theorem laneMeets_walk (W:World) (sA:O) (sn sc:Nat) (xs:List CmdX) (hcs:CmdsIs W Any sA sn xs) (hsc:sn<=sc) (hsz:sc*168<=140737488351232) (hsA:sA=none->sc=0) (mc:Array Value) (m:MailC) (hm:MailIs W Any mc m) (hok:m.Ok) (rc:Array Value) (r:RchC) (hr:RchIs W Any rc r) (hrok:r.Ok) :
 Calls prog 3 #[.slice sA sn sc,.agg mc,.agg rc] W fun e w'=>e=.returned (.bool true)/\Below W W w':=by
 have hm0:=hm
 obtain⟨eA,en,ec,hA,hn,hc,oA,on,oc,pA,pn,pc,rfl,_⟩:=hm0
 obtain⟨jA,jn,jc,rfl,hi⟩:=hr
 have hbk:=Blk.new W 30 (mailC m.kind m.term m.index m.prev m.commit m.good eA en ec m.data hA hn hc m.epoch m.site m.atN m.atE m.whN m.whE oA on oc pA pn pc)
 have hba:Below W W (W.alloc (.cells (mailC m.kind m.term m.index m.prev m.commit m.good eA en ec m.data hA hn hc m.epoch m.site m.atN m.atE m.whN m.whE oA on oc pA pn pc) 30)):=(Below.refl _ _).alloc (Nat.le_refl _) _
 have hk4:=hbk.alloc (.cells #[.int .i64 r.n,.int .i64 r.e,.slice jA jn jc] 32)
 have hk5:=Blk.new (W.alloc (.cells (mailC m.kind m.term m.index m.prev m.commit m.good eA en ec m.data hA hn hc m.epoch m.site m.atN m.atE m.whN m.whE oA on oc pA pn pc) 30)) 32 #[.int .i64 r.n,.int .i64 r.e,.slice jA jn jc]
 rw [show (W.alloc (.cells (mailC m.kind m.term m.index m.prev m.commit m.good eA en ec m.data hA hn hc m.epoch m.site m.atN m.atE m.whN m.whE oA on oc pA pn pc) 30)).heap.size=W.heap.size+1 by simp] at hk5
 have hb2:Below W W ((W.alloc (.cells (mailC m.kind m.term m.index m.prev m.commit m.good eA en ec m.data hA hn hc m.epoch m.site m.atN m.atE m.whN m.whE oA on oc pA pn pc) 30)).alloc (.cells #[.int .i64 r.n,.int .i64 r.e,.slice jA jn jc] 32)):=hba.alloc (by simp) _
 have hs2:((W.alloc (.cells (mailC m.kind m.term m.index m.prev m.commit m.good eA en ec m.data hA hn hc m.epoch m.site m.atN m.atE m.whN m.whE oA on oc pA pn pc) 30)).alloc (.cells #[.int .i64 r.n,.int .i64 r.e,.slice jA jn jc] 32)).heap.size=W.heap.size+2:=by simp
 obtain⟨HK4,HK5,HB2,HS2,HM,HI,HOK,HR,HC⟩:=J9 hk4 hk5 hb2 hs2 hm hi hok hrok hcs
 have HJL:=J hi.len
 clear hbk hba hk4 hk5 hb2 hs2 hm hi hok hrok hcs
 go_enter func3,ntmps3
 conv=>arg 2;arg 2;arg 2;arg 2;arg 2;change part [1,1,1,1] (codeOf meetsF)
 go_wp2_with fail
 refine (newLed_any _).mono ?_
 rintro e w3 ⟨g,m1,m2,rfl,hf,hb3⟩
 dsimp only
 have hled:=led_new hf
 rw [HS2.out] at hled
 have hB3:=HB2.out.trans (hb3.mono (by rw [HS2.out];omega))
 have h4:=HK4.out.below hb3 HK4.out.lt
 have h5:=HK5.out.below hb3 HK5.out.lt
 have hs3:=hb3.size
 rw [HS2.out] at hs3
 obtain⟨HLED,HB3,H4,H5,HS3⟩:=J5 hled hB3 h4 h5 hs3
 clear hf hb3 hled hB3 h4 h5 hs3
 go_wp2_with fail
 refine (newRefLed_any w3).mono ?_
 rintro e w4 ⟨rfl,hw4⟩
 dsimp only
 have hs3:=HS3.out
 have hb4:Below w3 w3 w4:=by rw [hw4];exact (Below.refl _ _).alloc (Nat.le_refl _) _
 have hkr:Blk w4 w3 62 (rledC none 0 0 none 0 0 0 0):=by rw [hw4];exact Blk.new w3 _ _
 have hl1:=HLED.out.1
 have hms:Ms W w4 g w3.heap.size (fun q=>q=g\/q=m1\/q=m2) (fun q=>q=w3.heap.size) 0 [] 0 (mailC m.kind m.term m.index m.prev m.commit m.good eA en ec m.data hA hn hc m.epoch m.site m.atN m.atE m.whN m.whE oA on oc pA pn pc) #[.int .i64 r.n,.int .i64 r.e,.slice jA jn jc]:=
  ⟨H4.out.below hb4 H4.out.lt,H5.out.below hb4 H5.out.lt,HLED.out.below hb4,ref_new hkr hs3,fun q hq hy=>by have:=(hl1 q hq).2;omega,⟨by omega,by omega⟩,HB3.out.trans (hb4.mono HB3.out.size),Nat.le_trans hs3 hb4.size⟩
 have HMS:=J hms
 clear hw4 hb4 hkr hl1 hms hs3
 go_wp2_with fail
 refine (awake_any _).mono ?_
 rintro e w5 ⟨rfl,hb5⟩
 dsimp only
 have hms:=HMS.out.below hb5
 have hk:=hms.k4
 obtain⟨c0,c1,c2,c3,c4,c5,c6,c7,c8,c9,c10,c11,c12,c13,c14,c15,c16⟩:=hk.cs 0 17
 have HM5:=J hms
 clear hb5 hk hms
 by_cases h100:100<sn
 ·have d1:decide ((100:Int)<(sn:Nat))=true:=decide_eq_true (by omega)
  clear c0 c1 c2 c3 c4 c5 c6 c7 c8 c9 c10 c11 c12 c13 c14 c15 c16 h100
  go_wp2_with fail
  refine (awake_any _).mono ?_
  rintro e w6 ⟨rfl,hb6⟩
  have HB6:=J (HM5.out.low.trans (hb6.mono HM5.out.low.size))
  clear hb6
  go_wp2_with fail
  go_ret
  exact⟨rfl,HB6.out⟩
 ·have d1:decide ((100:Int)<(sn:Nat))=false:=decide_eq_false (by omega)
  go_wp2_with fail
  refine (heavy_any _ m w5 (HM.out.below HM5.out.low) HOK.out).mono ?_
  rintro e w6 ⟨rfl,hb6⟩
  dsimp only
  have hm6:=HM5.out.below hb6
  have j2:=hm6.k5.c1 2
  have HM6:=J hm6
  clear c0 c1 c2 c3 c4 c5 c6 c7 c8 c9 c10 c11 c12 c13 c14 c15 c16 hb6 hm6
  obtain⟨hv,hhv⟩:∃ hv,hv=m.heavy:=⟨_,rfl⟩
  rw [<-hhv]
  have HV:=J hhv
  clear hhv
  cases hv with
  | true=>
   exact Y98
  | false=>
   by_cases h200:200<jn
   ·have d2:decide ((200:Int)<(jn:Nat))=true:=decide_eq_true (by omega)
    clear h200
    exact Y98
   ·have d2:decide ((200:Int)<(jn:Nat))=false:=decide_eq_false (by omega)
    go_wp2_with fail
    have hjl:=HJL.out
    have hmz:m.ops.length<=100:=by
     have hh:=HV.out
     unfold MailC.heavy at hh
     by_cases hx:100<m.ents.length+m.hs.length+m.ops.length
     ·rw [decide_eq_true hx] at hh;simp at hh
     ·omega
    exact ms_rest xs _ ff HM6.out HC.out (by omega) HM.out HI.out (by omega) HOK.out HR.out.n HR.out.e (by omega) HR.out.each
end
end Go.Proofs.Ytaipgdhdfpemcaa
