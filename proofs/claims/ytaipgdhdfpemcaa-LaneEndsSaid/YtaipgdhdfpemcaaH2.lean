/- THE WALKS OF LaneEnds, part 2. -/
import Derived.Test.YtaipgdhdfpemcaaH1
namespace Go.Proofs.Ytaipgdhdfpemcaa
set_option linter.all false
open Go.RowKit Go.Proofs.Try
set_option maxRecDepth 100000
set_option maxHeartbeats 4000000
@[reducible] noncomputable def shipF:Func:=Try.f104
def shStat (tb s gs:Nat) (hE hS:Int):Nat->Option Value
 | 0|2|3|7|9|10=>some (.pointer (some ⟨tb,0,none⟩))
 | 1|8=>some (.int .i64 (s:Nat))
 | 4|11=>some (.pointer (some ⟨tb,s,none⟩))
 | 5|12=>some (.pointer (some ⟨gs,0,none⟩))
 | 6=>some (.agg #[hE,hS])
 | _=>none
structure ShZ (w0:World) (tb s gs:Nat) (hE hS:Int) (n:Nat) (os:List OpC) (L:Nat->Bool) (U:Nat->Value) (W:World):Prop where
 low:Below w0 w0 W
 st:∀ i v,shStat tb s gs hE hS i=some v->L i=true->U i=v
 v13:L 13=true->∃ A c,U 13=.slice A n c/\OpsIs W (fun q=>w0.heap.size<=q/\q<W/\(L 14=true->U 14≠.pointer (some ⟨q,0,none⟩))) A n c os
 v14:L 14=true->∃ b,U 14=.pointer (some ⟨b,0,none⟩)/\w0.heap.size<=b/\Blk W b 93 (if L 15=true then #[hE,hS] else #[.int .i64 0,.int .i64 0])
 c15:L 15=true->L 14=true
 v16:L 16=true->L 13=true/\U 16=U 13
section
variable {w0:World} {tb s gs:Nat} {hE hS:Int} {n:Nat} {os:List OpC} {L:Nat->Bool} {U:Nat->Value} {W:World}
theorem updU_ne {i j:Nat} (h:j≠i) (v:Value):updU U i v j=U j:=if_neg h
theorem updU_eq (i:Nat) (v:Value):updU U i v i=v:=if_pos rfl
theorem setL_ne {i j:Nat} (h:j≠i):setL L i j=L j:=if_neg h
theorem ShZ.upd (h:ShZ w0 tb s gs hE hS n os L U W) (i:Nat) (v:Value) {W':World} (hb:Below W W W') (hi:i<13) (hv:shStat tb s gs hE hS i=some v):ShZ w0 tb s gs hE hS n os (setL L i) (updU U i v) W':=by
 refine⟨h.low.trans (hb.mono h.low.size),fun j u hj hL=>?_,fun hL=>?_,fun hL=>?_,fun hL=>?_,fun hL=>?_⟩
 ·by_cases e:j=i
  ·subst e
   rw [updU_eq]
   rw [hv] at hj
   injection hj
  ·rw [updU_ne e]
   exact EY19
 ·rw [setL_ne (by omega)] at hL
  obtain⟨A,c,h1,h2⟩:=h.v13 hL
  rw [updU_ne (by omega),updU_ne (by omega),setL_ne (by omega)]
  exact⟨A,c,h1,(h2.below hb).mono fun q _ hq=>⟨hq.1,Nat.lt_of_lt_of_le hq.2.1 hb.size,hq.2.2⟩⟩
 ·rw [setL_ne (by omega)] at hL
  exact EY17
 ·rw [setL_ne (by omega)] at hL ⊢
  exact h.c15 hL
 ·rw [setL_ne (by omega)] at hL ⊢
  rw [updU_ne (by omega),updU_ne (by omega)]
  exact h.v16 hL
theorem ShZ.ops (h:ShZ w0 tb s gs hE hS n os L U W) {A:Option Addr} {c:Nat} {W':World} (hb:Below W W W') (ho:OpsIs W' (From W.heap.size) A n c os) (h15:L 16=false):ShZ w0 tb s gs hE hS n os (setL L 13) (updU U 13 (.slice A n c)) W':=by
 refine⟨h.low.trans (hb.mono h.low.size),fun j u hj hL=>?_,fun _=>?_,fun hL=>?_,fun hL=>?_,fun hL=>?_⟩
 ·by_cases e:j=13
  ·subst e
   cases hj
  ·rw [updU_ne e]
   exact EY19
 ·rw [updU_eq,updU_ne (by omega),setL_ne (by omega)]
  refine⟨A,c,rfl,ho.mono fun q hq hf=>⟨Nat.le_trans h.low.size hf,hq,fun hL e=>?_⟩⟩
  obtain⟨b,h1,h2,h3⟩:=h.v14 hL
  rw [h1] at e
  injection e with e
  injection e with e
  injection e with e
  have:=h3.lt
  have:W.heap.size<=q:=hf
  omega
 ·rw [setL_ne (by omega)] at hL
  exact EY17
 ·rw [setL_ne (by omega)] at hL ⊢
  exact h.c15 hL
 ·rw [setL_ne (by omega)] at hL
  rw [h15] at hL
  cases hL
theorem ShZ.box (h:ShZ w0 tb s gs hE hS n os L U W) (hL14:L 14=false):ShZ w0 tb s gs hE hS n os (setL L 14) (updU U 14 (.pointer (some ⟨W.heap.size,0,none⟩))) (W.alloc (.cells #[.int .i64 0,.int .i64 0] 93)):=by
 have hb:Below W W (W.alloc (.cells #[.int .i64 0,.int .i64 0] 93)):=(Below.refl _ _).alloc (Nat.le_refl _) _
 refine⟨h.low.trans (hb.mono h.low.size),fun j u hj hL=>?_,fun hL=>?_,fun _=>?_,fun hL=>rfl,fun hL=>?_⟩
 ·by_cases e:j=14
  ·subst e
   cases hj
  ·rw [updU_ne e]
   exact EY19
 ·rw [setL_ne (by omega)] at hL
  obtain⟨A,c,h1,h2⟩:=h.v13 hL
  rw [updU_ne (by omega),updU_eq]
  refine⟨A,c,h1,(h2.below hb).mono fun q _ hq=>⟨hq.1,Nat.lt_of_lt_of_le hq.2.1 hb.size,fun _ e=>?_⟩⟩
  injection e with e
  injection e with e
  injection e with e
  have:=hq.2.1
  omega
 ·rw [updU_eq,setL_ne (by omega),if_neg (fun e=>by rw [h.c15 e] at hL14;cases hL14)]
  exact⟨_,rfl,h.low.size,Blk.new _ _ _⟩
 ·rw [setL_ne (by omega)] at hL ⊢
  rw [updU_ne (by omega),updU_ne (by omega)]
  exact h.v16 hL
theorem ShZ.store (h:ShZ w0 tb s gs hE hS n os L U W) {b:Nat} (hL:L 14=true) (hb:U 14=.pointer (some ⟨b,0,none⟩)) (u:Value):ShZ w0 tb s gs hE hS n os (setL L 15) (updU U 15 u) ((W.setCell ⟨b,0,none⟩ (.int .i64 hE)).setCell ⟨b,1,none⟩ (.int .i64 hS)):=by
 obtain⟨b',e,hge,hk⟩:=h.v14 hL
 rw [hb] at e
 injection e with e
 injection e with e
 injection e with e
 subst e
 have hbl:Below w0 W ((W.setCell ⟨b,0,none⟩ (.int .i64 hE)).setCell ⟨b,1,none⟩ (.int .i64 hS)):=((Below.refl _ _).setCell (p:=⟨b,0,none⟩) hge _).setCell (p:=⟨b,1,none⟩) hge _
 have hkp:Kept (fun q=>q≠b) W ((W.setCell ⟨b,0,none⟩ (.int .i64 hE)).setCell ⟨b,1,none⟩ (.int .i64 hS)):=⟨hbl.size,fun q hq _=>(Below.heap_setCell _ _ _ _ hq).trans (Below.heap_setCell _ _ _ _ hq)⟩
 refine⟨h.low.trans hbl,fun j v hj hL=>?_,fun hL'=>?_,fun _=>?_,fun _=>?_,fun hL'=>?_⟩
 ·by_cases e:j=15
  ·subst e
   cases hj
  ·rw [updU_ne e]
   rw [setL_ne e] at hL
   exact h.st j v hj hL
 ·rw [setL_ne (by omega)] at hL'
  obtain⟨A,c,h1,h2⟩:=h.v13 hL'
  rw [updU_ne (by omega),updU_ne (by omega),setL_ne (by omega)]
  refine⟨A,c,h1,(h2.kept (hkp.mono fun q _ hq e=>?_)).mono fun q _ hq=>⟨hq.1,Nat.lt_of_lt_of_le hq.2.1 hbl.size,hq.2.2⟩⟩
  subst e
  exact hq.2.2 hL hb
 ·rw [updU_ne (by omega),if_pos (show setL L 15 15=true from if_pos rfl)]
  refine⟨b,hb,hge,?_⟩
  have k1:=(hk.set_ 0 (.int .i64 hE)).set_ 1 (.int .i64 hS)
  revert k1
  split
  ·exact id
  ·exact id
 ·rw [setL_ne (by omega)]
  exact hL
 ·rw [setL_ne (by omega)] at hL' ⊢
  rw [updU_ne (by omega),updU_ne (by omega)]
  exact h.v16 hL'
end
theorem ShZ.last {w0:World} {tb s gs:Nat} {hE hS:Int} {n:Nat} {os:List OpC} {L:Nat->Bool} {U:Nat->Value} {W:World} (h:ShZ w0 tb s gs hE hS n os L U W) (h13:L 13=true):ShZ w0 tb s gs hE hS n os (setL L 16) (updU U 16 (U 13)) W:=by
 refine⟨h.low,fun j u hj hL=>?_,fun hL=>?_,fun hL=>?_,fun hL=>?_,fun hL=>?_⟩
 ·by_cases e:j=16
  ·subst e
   cases hj
  ·rw [updU_ne e]
   exact EY19
 ·rw [updU_ne (by omega),updU_ne (by omega),setL_ne (by omega)]
  exact h.v13 h13
 ·rw [setL_ne (by omega)] at hL
  rw [updU_ne (by omega),setL_ne (by omega)]
  exact h.v14 hL
 ·rw [setL_ne (by omega)] at hL ⊢
  exact h.c15 hL
 ·rw [setL_ne (by omega),updU_eq,updU_ne (by omega)]
  exact⟨h13,rfl⟩
section
variable {w:World} {B g:Nat} {Y:Nat->Prop} {k:Nat} {os:List OpC} {fence:Int}
theorem holder_led (h:LedIs w B g Y k os fence):Calls prog 53 #[.pointer (some ⟨g,0,none⟩)] w fun x w'=>x=.returned (.agg #[.int .i64 (holderC os).1,.int .i64 (holderC os).2])/\Below w w w':=by
 obtain⟨m1,m2,pA,pn,pc,lA,ln,lc,st,h1,_⟩:=h.open_
 exact holder_any w h1 rfl rfl
theorem fence_led (h:LedIs w B g Y k os fence):Calls prog 24 #[.pointer (some ⟨g,0,none⟩)] w fun x w'=>x=.returned (.int .i64 fence)/\w'=w:=by
 obtain⟨m1,m2,pA,pn,pc,lA,ln,lc,st,h1,_⟩:=h.open_
 exact fence_any w h1 rfl
theorem ops_led (h:LedIs w B g Y k os fence):Calls prog 22 #[.pointer (some ⟨g,0,none⟩)] w fun x w'=>∃ A' c',x=.returned (.slice A' os.length c')/\OpsIs w' (From w.heap.size) A' os.length c' os/\Below w w w':=by
 obtain⟨m1,m2,pA,pn,pc,lA,ln,lc,st,h1,h2,_⟩:=h.open_
 have hl:=h2.len
 have hr:=h.rows.len
 rw [<-hl] at h1 h2
 exact opsLed_any w h1 rfl h2 (by omega) h.rows.ok
end
theorem sh1 {w:World} {tb s gs n:Nat} {hE hS:Int} {os:List OpC} {v2 v3:Value} (Q:Exit->Act->World->Prop) (a:Act) (hfr:Fr 106 a [(0,tb),(1,.int .i64 (s:Nat)),(2,v2),(3,v3)]) (hs:s<2)
 (hc:∀ W,Below w w W->W.cell? ⟨tb,s,none⟩=some (.pointer (some ⟨gs,0,none⟩)))
 (hh:∀ W,Below w w W->Calls prog 53 #[.pointer (some ⟨gs,0,none⟩)] W fun x w'=>x=.returned (.agg #[hE,hS])/\Below W W w')
 (ho:∀ W,Below w w W->Calls prog 22 #[.pointer (some ⟨gs,0,none⟩)] W fun x w'=>∃ A c,x=.returned (.slice A n c)/\OpsIs w' (From W.heap.size) A n c os/\Below W W w')
 (hQ:∀ a' w' (b:Nat) A c,Fr 106 a' [(0,tb),(1,.int .i64 (s:Nat)),(2,v2),(3,v3),(9,b),(10,.slice A n c)]->Blk w' b 93 #[hE,hS]->w.heap.size<=b->OpsIs w' (fun q=>w.heap.size<=q/\q≠b) A n c os->Below w w w'->Q .normal a' w') :
 (part [1,0] (codeOf shipF)).wp prog Q a w:=by
 have hdr:∀ W,Below w.drew.heap.size w.drew W->Below w w W:=fun W hb=>⟨hb.os,hb.tape,hb.output,hb.size,hb.block⟩
 have hc:=fun W hb=>hc W (hdr W hb)
 have hh:=fun W hb=>hh W (hdr W hb)
 have ho:=fun W hb=>ho W (hdr W hb)
 have hQ:∀ a' w' (b:Nat) A c,Fr 106 a' [(0,tb),(1,.int .i64 (s:Nat)),(2,v2),(3,v3),(9,b),(10,.slice A n c)]->Blk w' b 93 #[hE,hS]->w.drew.heap.size<=b->OpsIs w' (fun q=>w.drew.heap.size<=q/\q≠b) A n c os->Below w.drew.heap.size w.drew w'->Q .normal a' w':=fun a' w' b A c h1 h2 h3 h4 h5=>hQ a' w' b A c h1 h2 h3 h4 (hdr _ h5)
 clear hdr
 obtain⟨w0,hw0⟩:∃ w0,w0=w.drew:=⟨_,rfl⟩
 rw [<-hw0] at hc hh ho hQ
 have HC:=Lib.hid hc
 have HH:=Lib.hid hh
 have HO:=Lib.hid ho
 have HQ:=Lib.hid hQ
 clear hc hh ho hQ
 refine gg hfr fun t=>?_
 obtain⟨w1,hw1⟩:∃ w1,w1=w:=⟨_,rfl⟩
 rw [<-hw1]
 rw [<-hw1] at hw0
 clear hw1
 have HW0:=Lib.hid hw0
 clear hw0
 refine wp_region_inv kr (fun L U W'=>ShZ w0 tb s gs hE hS n os L U W') kr ?hI ?hstep ?hend
 case hI=>
  intro U
  have key:∀ W',W'=w0->ShZ w0 tb s gs hE hS n os (fun _=>false) U W':=fun W' hW'=>by
   rw [hW']
   exact⟨Below.refl _ _,fun _ _ _ e=>absurd e (by decide),fun e=>absurd e (by decide),fun e=>absurd e (by decide),fun e=>absurd e (by decide),fun e=>absurd e (by decide)⟩
  exact key _ HW0.out.symm
 case hstep=>
  intro i o F L U W ho hZ hL hat hoff hp
  match i with
  | 0=>
   cases ho
   refine on_ (wanted_none rfl) ?_
   have e0:F.eval (.tmp 0)=.pointer (some ⟨tb,0,none⟩):=(hoff 0 kd).trans rfl
   have t0:=act_tmp e0
   exact wp_move' (.tmp 0) rfl ⟨_,rfl,e0▸hZ.upd 0 _ (Below.refl _ _) (by decide) rfl⟩
  | 1=>
   cases ho
   refine on_ (wanted_none rfl) ?_
   have e1:F.eval (.tmp 1)=.int .i64 (s:Nat):=(hoff 1 kd).trans rfl
   have t1:=act_tmp e1
   exact wp_move' (.tmp 1) rfl ⟨_,rfl,e1▸hZ.upd 1 _ (Below.refl _ _) (by decide) rfl⟩
  | 2=>
   cases ho
   refine on_ (wanted_none rfl) ?_
   have l0:=hp ⟨0,.data⟩ (by simp) rfl
   have e12:F.eval (.tmp 12)=.pointer (some ⟨tb,0,none⟩):=(hat 0 12 kd rfl).trans (hZ.st 0 _ rfl l0)
   have t12:=act_tmp e12
   exact wp_value' (.pointer (some ⟨tb,0,none⟩)) W (by unfold execOp;go_simp) ⟨_,rfl,hZ.upd 2 _ (Below.refl _ _) (by decide) rfl⟩
  | 3=>
   cases ho
   refine on_ (wanted_none rfl) ?_
   have l2:=hp ⟨2,.data⟩ (by simp) rfl
   have e14:F.eval (.tmp 14)=.pointer (some ⟨tb,0,none⟩):=(hat 2 14 kd rfl).trans (hZ.st 2 _ rfl l2)
   have t14:=act_tmp e14
   exact wp_value' (.pointer (some ⟨tb,0,none⟩)) W (by unfold execOp;go_simp) ⟨_,rfl,hZ.upd 3 _ (Below.refl _ _) (by decide) rfl⟩
  | 4=>
   cases ho
   refine on_ (wanted_none rfl) ?_
   have l3:=hp ⟨3,.data⟩ (by simp) rfl
   have e15:F.eval (.tmp 15)=.pointer (some ⟨tb,0,none⟩):=(hat 3 15 kd rfl).trans (hZ.st 3 _ rfl l3)
   have t15:=act_tmp e15
   have l1:=hp ⟨1,.data⟩ (by simp) rfl
   have e13:F.eval (.tmp 13)=.int .i64 (s:Nat):=(hat 1 13 kd rfl).trans (hZ.st 1 _ rfl l1)
   have t13:=act_tmp e13
   exact wp_value' (.pointer (some ⟨tb,s,none⟩)) W (by unfold execOp;go_simp;all_goals first|omega|exact IntWalk.i64_in _ (by omega)) ⟨_,rfl,hZ.upd 4 _ (Below.refl _ _) (by decide) rfl⟩
  | 5=>
   cases ho
   refine on_ (wanted_none rfl) ?_
   have l4:=hp ⟨4,.data⟩ (by simp) rfl
   have e16:F.eval (.tmp 16)=.pointer (some ⟨tb,s,none⟩):=(hat 4 16 kd rfl).trans (hZ.st 4 _ rfl l4)
   have t16:=act_tmp e16
   have d0:=HC.out W hZ.low
   exact wp_value' (.pointer (some ⟨gs,0,none⟩)) W (by unfold execOp;go_simp) ⟨_,rfl,hZ.upd 5 _ (Below.refl _ _) (by decide) rfl⟩
  | 6=>
   cases ho
   refine on_ (wanted_none rfl) ?_
   have l5:=hp ⟨5,.data⟩ (by simp) rfl
   have e17:F.eval (.tmp 17)=.pointer (some ⟨gs,0,none⟩):=(hat 5 17 kd rfl).trans (hZ.st 5 _ rfl l5)
   have t17:=act_tmp e17
   refine wp_enter' 53 #[.pointer (some ⟨gs,0,none⟩)] (by unfold execOp;go_simp) ?_
   refine (HH.out W hZ.low).mono ?_
   rintro e W' ⟨rfl,hb⟩
   exact⟨_,rfl,_,rfl,hZ.upd 6 _ hb (by decide) rfl⟩
  | 7=>
   cases ho
   refine on_ (wanted_none rfl) ?_
   have e0:F.eval (.tmp 0)=.pointer (some ⟨tb,0,none⟩):=(hoff 0 kd).trans rfl
   have t0:=act_tmp e0
   exact wp_move' (.tmp 0) rfl ⟨_,rfl,e0▸hZ.upd 7 _ (Below.refl _ _) (by decide) rfl⟩
  | 8=>
   cases ho
   refine on_ (wanted_none rfl) ?_
   have e1:F.eval (.tmp 1)=.int .i64 (s:Nat):=(hoff 1 kd).trans rfl
   have t1:=act_tmp e1
   exact wp_move' (.tmp 1) rfl ⟨_,rfl,e1▸hZ.upd 8 _ (Below.refl _ _) (by decide) rfl⟩
  | 9=>
   cases ho
   refine on_ (wanted_none rfl) ?_
   have l7:=hp ⟨7,.data⟩ (by simp) rfl
   have e19:F.eval (.tmp 19)=.pointer (some ⟨tb,0,none⟩):=(hat 7 19 kd rfl).trans (hZ.st 7 _ rfl l7)
   have t19:=act_tmp e19
   exact wp_value' (.pointer (some ⟨tb,0,none⟩)) W (by unfold execOp;go_simp) ⟨_,rfl,hZ.upd 9 _ (Below.refl _ _) (by decide) rfl⟩
  | 10=>
   cases ho
   refine on_ (wanted_none rfl) ?_
   have l9:=hp ⟨9,.data⟩ (by simp) rfl
   have e21:F.eval (.tmp 21)=.pointer (some ⟨tb,0,none⟩):=(hat 9 21 kd rfl).trans (hZ.st 9 _ rfl l9)
   have t21:=act_tmp e21
   exact wp_value' (.pointer (some ⟨tb,0,none⟩)) W (by unfold execOp;go_simp) ⟨_,rfl,hZ.upd 10 _ (Below.refl _ _) (by decide) rfl⟩
  | 11=>
   cases ho
   refine on_ (wanted_none rfl) ?_
   have l10:=hp ⟨10,.data⟩ (by simp) rfl
   have e22:F.eval (.tmp 22)=.pointer (some ⟨tb,0,none⟩):=(hat 10 22 kd rfl).trans (hZ.st 10 _ rfl l10)
   have t22:=act_tmp e22
   have l8:=hp ⟨8,.data⟩ (by simp) rfl
   have e20:F.eval (.tmp 20)=.int .i64 (s:Nat):=(hat 8 20 kd rfl).trans (hZ.st 8 _ rfl l8)
   have t20:=act_tmp e20
   exact wp_value' (.pointer (some ⟨tb,s,none⟩)) W (by unfold execOp;go_simp;all_goals first|omega|exact IntWalk.i64_in _ (by omega)) ⟨_,rfl,hZ.upd 11 _ (Below.refl _ _) (by decide) rfl⟩
  | 12=>
   cases ho
   refine on_ (wanted_none rfl) ?_
   have l11:=hp ⟨11,.data⟩ (by simp) rfl
   have e23:F.eval (.tmp 23)=.pointer (some ⟨tb,s,none⟩):=(hat 11 23 kd rfl).trans (hZ.st 11 _ rfl l11)
   have t23:=act_tmp e23
   have d0:=HC.out W hZ.low
   exact wp_value' (.pointer (some ⟨gs,0,none⟩)) W (by unfold execOp;go_simp) ⟨_,rfl,hZ.upd 12 _ (Below.refl _ _) (by decide) rfl⟩
  | 13=>
   cases ho
   refine on_ (wanted_none rfl) ?_
   have l12:=hp ⟨12,.data⟩ (by simp) rfl
   have e24:F.eval (.tmp 24)=.pointer (some ⟨gs,0,none⟩):=(hat 12 24 kd rfl).trans (hZ.st 12 _ rfl l12)
   have t24:=act_tmp e24
   refine wp_enter' 22 #[.pointer (some ⟨gs,0,none⟩)] (by unfold execOp;go_simp) ?_
   refine (HO.out W hZ.low).mono ?_
   rintro e W' ⟨A,c,rfl,ho',hb⟩
   refine⟨_,rfl,_,rfl,hZ.ops hb ho' ?_⟩
   cases h16:L 16 with
   | false=>rfl
   | true=>rw [(hZ.v16 h16).1] at hL;cases hL
  | 14=>
   cases ho
   refine on_ (wanted_none rfl) ?_
   exact wp_value' (.pointer (some ⟨W.heap.size,0,none⟩)) (W.alloc (.cells #[.int .i64 0,.int .i64 0] 93)) (by unfold execOp;go_simp) ⟨_,rfl,hZ.box hL⟩
  | 15=>
   cases ho
   refine on_ (wanted_none rfl) ?_
   have l14:=hp ⟨14,.data⟩ (by simp) rfl
   obtain⟨b,hu,hge,hk⟩:=hZ.v14 l14
   rw [hL,if_neg (by decide)] at hk
   have e9:F.eval (.tmp 9)=.pointer (some ⟨b,0,none⟩):=(hat 14 9 kd rfl).trans hu
   have t9:=act_tmp e9
   have l6:=hp ⟨6,.data⟩ (by simp) rfl
   have e18:F.eval (.tmp 18)=.agg #[hE,hS]:=(hat 6 18 kd rfl).trans (hZ.st 6 _ rfl l6)
   have t18:=act_tmp e18
   have f0:=hk.frozen 0
   have f1:=hk.frozen 1
   have c0:=hk.cell 0
   have c1:=hk.cell 1
   simp at c0 c1
   refine wp_skip' ((W.setCell ⟨b,0,none⟩ (.int .i64 hE)).setCell ⟨b,1,none⟩ (.int .i64 hS)) (by unfold execOp;go_simp) ⟨_,rfl,hZ.store l14 hu _⟩
  | 16=>
   cases ho
   refine on_ (wanted_none rfl) ?_
   have l13:=hp ⟨13,.data⟩ (by simp) rfl
   have e25:=hat 13 25 kd rfl
   exact wp_assign' (.tmp 25) rfl ⟨_,rfl,e25▸hZ.last l13⟩
  | i+17=>exact absurd ho (by simp)
 case hend=>
  intro U L W hZ hall
  obtain⟨A,c,u13,k13⟩:=hZ.v13 (hall 13 (by decide))
  obtain⟨b,u14,hge,k14⟩:=hZ.v14 (hall 14 (by decide))
  rw [if_pos (hall 15 (by decide))] at k14
  have u16:=(hZ.v16 (hall 16 (by decide))).2.trans u13
  have k13:=k13.mono (S':=fun q=>w0.heap.size<=q/\q≠b) fun q _ hq=>⟨hq.1,fun e=>hq.2.2 (hall 14 (by decide)) (by rw [u14,e])⟩
  have hl:=hZ.low
  clear hZ hall
  simp [putU,dstAt,Act.put]
  exact HQ.out _ W b A c ⟨rfl,rfl,rfl,rfl,rfl,rfl,u14,u16,trivial⟩ k14 hge k13 hl
theorem sh2a {w:World} {tb s gs b:Nat} {hE hS fence:Int} {v2 v3 v10:Value} (Q:Exit->Act->World->Prop) (a:Act) (hfr:Fr 106 a [(0,tb),(1,.int .i64 (s:Nat)),(2,v2),(3,v3),(9,b),(10,v10)]) (hs:s<2) (hb:Blk w b 93 #[hE,hS]) (hc:w.cell? ⟨tb,s,none⟩=some (.pointer (some ⟨gs,0,none⟩)))
 (hf:∀ w0,w0=w.drew->Calls prog 24 #[.pointer (some ⟨gs,0,none⟩)] w0 fun x w'=>x=.returned (.int .i64 fence)/\w'=w0) (d1:(hE==0)=true)
 (hQ:∀ a',Fr 106 a' [(0,tb),(1,.int .i64 (s:Nat)),(2,v2),(3,v3),(9,b),(10,v10),(46,true)]->Q .normal a' w.drew) :
 (part [1,1,0,0] (codeOf shipF)).wp prog Q a w:=by
 have hb:Blk w.drew b 93 #[hE,hS]:=hb
 have hc:w.drew.cell? ⟨tb,s,none⟩=some (.pointer (some ⟨gs,0,none⟩)):=hc
 obtain⟨w0,hw0⟩:∃ w0,w0=w.drew:=⟨_,rfl⟩
 have hf:=hf w0 hw0
 rw [<-hw0] at hb hc hQ
 have HB:=Lib.hid hb
 have HC:=Lib.hid hc
 have HF:=Lib.hid hf
 have HQ:=Lib.hid hQ
 clear hb hc hf hQ
 refine gg hfr fun t=>?_
 obtain⟨w1,hw1⟩:∃ w1,w1=w:=⟨_,rfl⟩
 rw [<-hw1]
 rw [<-hw1] at hw0
 clear hw1
 have HW0:=Lib.hid hw0
 clear hw0
 refine wp_region_all kr (fun i v W=>match i with|0=>v=.pointer (some ⟨b,0,none⟩)|1=>v=.int .i64 hE|2=>v=.bool true|3=>v=.bool true|4=>v=undef|5=>v=undef|6=>v=undef|7=>v=undef|8=>v=.bool true|9=>v=.bool true|10=>v=undef|11=>v=undef|12=>v=undef|13=>v=undef|14=>v=undef|15=>v=undef|16=>v=undef|17=>v=undef|18=>v=undef|19=>v=undef|20=>v=.bool true|_=>True) (fun W=>W=w0) (fun W W'=>W'=W) kr ?hG ?hmono ?hstep ?hend
 case hG=>exact HW0.out.symm
 case hmono=>
  intro i v W W' hx hv
  match i with
  | 0|1|2|3|4|5|6|7|8|9|10|11|12|13|14|15|16|17|18|19|20=>exact hv
  | i+21=>exact hv
 case hstep=>
  intro i o F U W ho hGW hat hoff hp
  have hrefl:=fun W:World=>(rfl:W=W)
  have e0:F.eval (.tmp 0)=.pointer (some ⟨tb,0,none⟩):=(hoff 0 kd).trans rfl
  have t0:=act_tmp e0
  have e1:F.eval (.tmp 1)=.int .i64 (s:Nat):=(hoff 1 kd).trans rfl
  have t1:=act_tmp e1
  have e9:F.eval (.tmp 9)=.pointer (some ⟨b,0,none⟩):=(hoff 9 kd).trans rfl
  have t9:=act_tmp e9
  have qa:=Lib.hid hat
  have qb:=Lib.hid hp
  clear hat hoff hp
  match i with
   | 0=>
    cases ho
    exact EY27
   | 1=>
    exact EY31
   | 2=>
    exact EY28
   | 3=>
    cases ho
    have t28:=tv qa qb 2 28
    exact EY27
   | 4|5|6|7=>
    cases ho
    have eg:=ev qa qb 3 29 .guard
    exact off_ (W:=W) ((wanted_by rfl rfl eg).trans rfl) rfl
   | 8=>
    cases ho
    have t29:=tv qa qb 3 29
    exact EY27
   | 9=>
    cases ho
    have t34:=tv qa qb 8 34
    exact EY27
   | 10|11|12|13|14|15|16|17|18|19=>
    exact EY21
   | 20=>
    cases ho
    have t35:=tv qa qb 9 35
    exact EY27
   | i+21=>exact absurd ho (by simp)
 case hend=>
  exact EY6
theorem sh2b {w:World} {tb s gs b:Nat} {hE hS fence:Int} {v2 v3 v10:Value} (Q:Exit->Act->World->Prop) (a:Act) (hfr:Fr 106 a [(0,tb),(1,.int .i64 (s:Nat)),(2,v2),(3,v3),(9,b),(10,v10)]) (hs:s<2) (hb:Blk w b 93 #[hE,hS]) (hc:w.cell? ⟨tb,s,none⟩=some (.pointer (some ⟨gs,0,none⟩)))
 (hf:∀ w0,w0=w.drew->Calls prog 24 #[.pointer (some ⟨gs,0,none⟩)] w0 fun x w'=>x=.returned (.int .i64 fence)/\w'=w0) (d1:(hE==0)=false) (d2:(hS != (s:Int))=true)
 (hQ:∀ a',Fr 106 a' [(0,tb),(1,.int .i64 (s:Nat)),(2,v2),(3,v3),(9,b),(10,v10),(46,true)]->Q .normal a' w.drew) :
 (part [1,1,0,0] (codeOf shipF)).wp prog Q a w:=by
 have hb:Blk w.drew b 93 #[hE,hS]:=hb
 have hc:w.drew.cell? ⟨tb,s,none⟩=some (.pointer (some ⟨gs,0,none⟩)):=hc
 obtain⟨w0,hw0⟩:∃ w0,w0=w.drew:=⟨_,rfl⟩
 have hf:=hf w0 hw0
 rw [<-hw0] at hb hc hQ
 have HB:=Lib.hid hb
 have HC:=Lib.hid hc
 have HF:=Lib.hid hf
 have HQ:=Lib.hid hQ
 clear hb hc hf hQ
 refine gg hfr fun t=>?_
 obtain⟨w1,hw1⟩:∃ w1,w1=w:=⟨_,rfl⟩
 rw [<-hw1]
 rw [<-hw1] at hw0
 clear hw1
 have HW0:=Lib.hid hw0
 clear hw0
 refine wp_region_all kr (fun i v W=>match i with|0=>v=.pointer (some ⟨b,0,none⟩)|1=>v=.int .i64 hE|2=>v=.bool false|3=>v=.bool false|4=>v=.pointer (some ⟨b,1,none⟩)|5=>v=.int .i64 hS|6=>v=.int .i64 (s:Nat)|7=>v=.bool true|8=>v=.bool true|9=>v=.bool true|10=>v=undef|11=>v=undef|12=>v=undef|13=>v=undef|14=>v=undef|15=>v=undef|16=>v=undef|17=>v=undef|18=>v=undef|19=>v=undef|20=>v=.bool true|_=>True) (fun W=>W=w0) (fun W W'=>W'=W) kr ?hG ?hmono ?hstep ?hend
 case hG=>exact HW0.out.symm
 case hmono=>
  intro i v W W' hx hv
  match i with
  | 0|1|2|3|4|5|6|7|8|9|10|11|12|13|14|15|16|17|18|19|20=>exact hv
  | i+21=>exact hv
 case hstep=>
  intro i o F U W ho hGW hat hoff hp
  have hrefl:=fun W:World=>(rfl:W=W)
  have e0:F.eval (.tmp 0)=.pointer (some ⟨tb,0,none⟩):=(hoff 0 kd).trans rfl
  have t0:=act_tmp e0
  have e1:F.eval (.tmp 1)=.int .i64 (s:Nat):=(hoff 1 kd).trans rfl
  have t1:=act_tmp e1
  have e9:F.eval (.tmp 9)=.pointer (some ⟨b,0,none⟩):=(hoff 9 kd).trans rfl
  have t9:=act_tmp e9
  have qa:=Lib.hid hat
  have qb:=Lib.hid hp
  clear hat hoff hp
  match i with
   | 0=>
    cases ho
    exact EY27
   | 1=>
    exact EY31
   | 2=>
    exact EY28
   | 3=>
    cases ho
    have t28:=tv qa qb 2 28
    exact EY27
   | 4|6=>
    cases ho
    have eg:=ev qa qb 3 29 .guard
    refine on_ ((wanted_by rfl rfl eg).trans rfl) ?_
    exact vl ⟨_,rfl,rfl,hGW,hrefl W⟩
   | 5=>
    cases ho
    have eg:=ev qa qb 3 29 .guard
    refine on_ ((wanted_by rfl rfl eg).trans rfl) ?_
    have t30:=tv qa qb 4 30
    have d0:=HB.out.cell 0
    have d1:=HB.out.cell 1
    simp at d0 d1
    exact vl ⟨_,rfl,rfl,hGW,hrefl W⟩
   | 7=>
    cases ho
    have eg:=ev qa qb 3 29 .guard
    refine on_ ((wanted_by rfl rfl eg).trans rfl) ?_
    have t31:=tv qa qb 5 31
    have t32:=tv qa qb 6 32
    exact vl ⟨_,rfl,rfl,hGW,hrefl W⟩ (h:=by unfold execOp;go_simp;all_goals first|omega|exact IntWalk.i64_in _ (by omega))
   | 8=>
    cases ho
    have t29:=tv qa qb 3 29
    have t33:=tv qa qb 7 33
    exact EY27
   | 9=>
    cases ho
    have t34:=tv qa qb 8 34
    exact EY27
   | 10|11|12|13|14|15|16|17|18|19=>
    exact EY21
   | 20=>
    cases ho
    have t35:=tv qa qb 9 35
    exact EY27
   | i+21=>exact absurd ho (by simp)
 case hend=>
  exact EY6
theorem sh2c {w:World} {tb s gs b:Nat} {hE hS fence:Int} {v2 v3 v10:Value} (Q:Exit->Act->World->Prop) (a:Act) (hfr:Fr 106 a [(0,tb),(1,.int .i64 (s:Nat)),(2,v2),(3,v3),(9,b),(10,v10)]) (hs:s<2) (hb:Blk w b 93 #[hE,hS]) (hc:w.cell? ⟨tb,s,none⟩=some (.pointer (some ⟨gs,0,none⟩)))
 (hf:∀ w0,w0=w.drew->Calls prog 24 #[.pointer (some ⟨gs,0,none⟩)] w0 fun x w'=>x=.returned (.int .i64 fence)/\w'=w0) (d1:(hE==0)=false) (d2:(hS != (s:Int))=false) (d3:(hE != fence)=true)
 (hQ:∀ a',Fr 106 a' [(0,tb),(1,.int .i64 (s:Nat)),(2,v2),(3,v3),(9,b),(10,v10),(46,true)]->Q .normal a' w.drew) :
 (part [1,1,0,0] (codeOf shipF)).wp prog Q a w:=by
 have hb:Blk w.drew b 93 #[hE,hS]:=hb
 have hc:w.drew.cell? ⟨tb,s,none⟩=some (.pointer (some ⟨gs,0,none⟩)):=hc
 obtain⟨w0,hw0⟩:∃ w0,w0=w.drew:=⟨_,rfl⟩
 have hf:=hf w0 hw0
 rw [<-hw0] at hb hc hQ
 have HB:=Lib.hid hb
 have HC:=Lib.hid hc
 have HF:=Lib.hid hf
 have HQ:=Lib.hid hQ
 clear hb hc hf hQ
 refine gg hfr fun t=>?_
 obtain⟨w1,hw1⟩:∃ w1,w1=w:=⟨_,rfl⟩
 rw [<-hw1]
 rw [<-hw1] at hw0
 clear hw1
 have HW0:=Lib.hid hw0
 clear hw0
 refine wp_region_all kr (fun i v W=>match i with|0=>v=.pointer (some ⟨b,0,none⟩)|1=>v=.int .i64 hE|2=>v=.bool false|3=>v=.bool false|4=>v=.pointer (some ⟨b,1,none⟩)|5=>v=.int .i64 hS|6=>v=.int .i64 (s:Nat)|7=>v=.bool false|8=>v=.bool false|9=>v=.bool false|10=>v=.pointer (some ⟨b,0,none⟩)|11=>v=.int .i64 hE|12=>v=.pointer (some ⟨tb,0,none⟩)|13=>v=.int .i64 (s:Nat)|14=>v=.pointer (some ⟨tb,0,none⟩)|15=>v=.pointer (some ⟨tb,0,none⟩)|16=>v=.pointer (some ⟨tb,s,none⟩)|17=>v=.pointer (some ⟨gs,0,none⟩)|18=>v=.int .i64 fence|19=>v=.bool true|20=>v=.bool true|_=>True) (fun W=>W=w0) (fun W W'=>W'=W) kr ?hG ?hmono ?hstep ?hend
 case hG=>exact HW0.out.symm
 case hmono=>
  intro i v W W' hx hv
  match i with
  | 0|1|2|3|4|5|6|7|8|9|10|11|12|13|14|15|16|17|18|19|20=>exact hv
  | i+21=>exact hv
 case hstep=>
  exact EY1
 case hend=>
  exact EY6
theorem sh2d {w:World} {tb s gs b:Nat} {hE hS fence:Int} {v2 v3 v10:Value} (Q:Exit->Act->World->Prop) (a:Act) (hfr:Fr 106 a [(0,tb),(1,.int .i64 (s:Nat)),(2,v2),(3,v3),(9,b),(10,v10)]) (hs:s<2) (hb:Blk w b 93 #[hE,hS]) (hc:w.cell? ⟨tb,s,none⟩=some (.pointer (some ⟨gs,0,none⟩)))
 (hf:∀ w0,w0=w.drew->Calls prog 24 #[.pointer (some ⟨gs,0,none⟩)] w0 fun x w'=>x=.returned (.int .i64 fence)/\w'=w0) (d1:(hE==0)=false) (d2:(hS != (s:Int))=false) (d3:(hE != fence)=false)
 (hQ:∀ a',Fr 106 a' [(0,tb),(1,.int .i64 (s:Nat)),(2,v2),(3,v3),(9,b),(10,v10),(46,false)]->Q .normal a' w.drew) :
 (part [1,1,0,0] (codeOf shipF)).wp prog Q a w:=by
 have hb:Blk w.drew b 93 #[hE,hS]:=hb
 have hc:w.drew.cell? ⟨tb,s,none⟩=some (.pointer (some ⟨gs,0,none⟩)):=hc
 obtain⟨w0,hw0⟩:∃ w0,w0=w.drew:=⟨_,rfl⟩
 have hf:=hf w0 hw0
 rw [<-hw0] at hb hc hQ
 have HB:=Lib.hid hb
 have HC:=Lib.hid hc
 have HF:=Lib.hid hf
 have HQ:=Lib.hid hQ
 clear hb hc hf hQ
 refine gg hfr fun t=>?_
 obtain⟨w1,hw1⟩:∃ w1,w1=w:=⟨_,rfl⟩
 rw [<-hw1]
 rw [<-hw1] at hw0
 clear hw1
 have HW0:=Lib.hid hw0
 clear hw0
 refine wp_region_all kr (fun i v W=>match i with|0=>v=.pointer (some ⟨b,0,none⟩)|1=>v=.int .i64 hE|2=>v=.bool false|3=>v=.bool false|4=>v=.pointer (some ⟨b,1,none⟩)|5=>v=.int .i64 hS|6=>v=.int .i64 (s:Nat)|7=>v=.bool false|8=>v=.bool false|9=>v=.bool false|10=>v=.pointer (some ⟨b,0,none⟩)|11=>v=.int .i64 hE|12=>v=.pointer (some ⟨tb,0,none⟩)|13=>v=.int .i64 (s:Nat)|14=>v=.pointer (some ⟨tb,0,none⟩)|15=>v=.pointer (some ⟨tb,0,none⟩)|16=>v=.pointer (some ⟨tb,s,none⟩)|17=>v=.pointer (some ⟨gs,0,none⟩)|18=>v=.int .i64 fence|19=>v=.bool false|20=>v=.bool false|_=>True) (fun W=>W=w0) (fun W W'=>W'=W) kr ?hG ?hmono ?hstep ?hend
 case hG=>exact HW0.out.symm
 case hmono=>
  intro i v W W' hx hv
  match i with
  | 0|1|2|3|4|5|6|7|8|9|10|11|12|13|14|15|16|17|18|19|20=>exact hv
  | i+21=>exact hv
 case hstep=>
  exact EY1
 case hend=>
  intro U W hGW hV
  have hx:U 20=.bool false:=hV 20 kd
  clear hV
  obtain rfl:=hGW
  simp [putU,dstAt,Act.put]
  exact HQ.out _ ⟨rfl,rfl,rfl,rfl,rfl,rfl,rfl,rfl,hx,trivial⟩
end Go.Proofs.Ytaipgdhdfpemcaa
