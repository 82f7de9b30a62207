/- THE WALKS OF THE LANE, part 12. -/
import Derived.Test.YtaipgdhdfpemcaaF5
import Derived.Test.YtaipgdhdfpemcaaF6
namespace Go.Proofs.Ytaipgdhdfpemcaa
set_option linter.all false
open Go.RowKit Go.Proofs.Try
set_option maxRecDepth 100000
set_option maxHeartbeats 4000000
@[reducible] def awCmd (pA:Addr) (pc:Nat):Array Value:=
 #[.int .i64 3,.int .i64 1,.int .i64 0,.int .i64 0,.int .i64 0,.int .i64 0,.int .i64 0,.int .i64 0,.int .i64 0,.string ⟨#[]⟩,.int .i64 0,.slice none 0 0,.int .i64 2,.int .i64 1,.slice (some pA) 0 pc,.int .i64 0]
section
variable {t:TypeId} {a b c:Value} {W:World}
theorem bare0 (w:World):Calls prog 108 #[.agg #[.int .i64 0,.slice none 0 0]] w fun x w'=>x=.returned (.bool true)/\Below w w w':=by
 go_enter func108,ntmps108
 go_wp2
 go_ret
 exact Y149
theorem blank0 (w:World):Calls prog 82 #[.agg #[.int .i64 0,.int .i64 0,.int .i64 0,.int .i64 0,.int .i64 0,.int .i64 0,.string ⟨#[]⟩,.int .i64 0,.slice none 0 0]] w fun x w'=>x=.returned (.bool true)/\Below w w w':=by
 have hbl:∀ o1,Below w w (w.alloc o1):=fun o1=>(Below.refl _ _).alloc (Nat.le_refl _) _
 have HBL:=J hbl
 clear hbl
 go_enter func82,ntmps82
 go_wp2_with fail
 refine (bare0 _).mono ?_
 rintro x w1 ⟨rfl,hb1⟩
 have HB:=J hb1
 clear hb1
 go_wp2
 go_ret
 exact⟨rfl,(HBL.out _).trans (HB.out.mono (by simp))⟩
theorem reigned10 (w:World):Calls prog 85 #[.int .i64 1,.int .i64 0] w fun x w'=>x=.returned (.bool true)/\w'=w:=by
 go_enter func85,ntmps85
 exact Y222
theorem deed_aw (pA:Addr) (pc:Nat) (w:World):Calls prog 42 #[.agg (awCmd pA pc)] w fun x w'=>x=.returned (.int .i64 0)/\Below w w w':=by
 have hbk:Blk (w.alloc (.cells (awCmd pA pc) 47)) w.heap.size 47 (awCmd pA pc):=Blk.new w _ _
 have hbl:Below w w (w.alloc (.cells (awCmd pA pc) 47)):=(Below.refl _ _).alloc (Nat.le_refl _) _
 obtain⟨HBK,HBL⟩:=J2 hbk hbl
 clear hbk hbl
 go_enter func42,ntmps42
 go_wp2_with fail
 refine (blank0 _).mono ?_
 rintro x w1 ⟨rfl,hb1⟩
 have hk1:=HBK.out.below hb1 HBK.out.lt
 have hl1:=HBL.out.trans (hb1.mono HBL.out.size)
 obtain⟨c0,c1,c2⟩:=hk1.cs 0 3
 obtain⟨c12,c13,c14,c15⟩:=hk1.cs 12 4
 obtain⟨HK1,HL1⟩:=J2 hk1 hl1
 clear hb1 hk1 hl1
 go_wp2_with fail
 refine (reigned10 _).mono ?_
 rintro x w2 ⟨rfl,rfl⟩
 go_wp2_with fail
 refine (row0 _ _ 2 1 (by omega) (by omega) (by decide) _).mono ?_
 rintro x w3 ⟨rfl,hb3⟩
 have hk3:=HK1.out.below hb3 HK1.out.lt
 have hl3:=HL1.out.trans (hb3.mono HL1.out.size)
 clear c0 c1 c2 c12 c13 c14 c15
 have c14:=hk3.c1 14
 have HL3:=J hl3
 clear hb3 hk3 hl3
 go_wp2_with fail
 go_loopw [6,174] (fun a i wr=>a=.bool true/\i=.int .i64 0/\Below w w wr) (fun _ _ _=>0)
 case atStart=>exact⟨rfl,rfl,HL3.out⟩
 case round=>
  obtain⟨rfl,rfl,hb⟩:=hrel
  have HB:=J hb
  clear hb
  exact Y91
theorem set3 {g:Nat} (h:Blk W g t #[a,b,c]) (x y z:Value):Blk (((W.setCell ⟨g,0,none⟩ x).setCell ⟨g,1,none⟩ y).setCell ⟨g,2,none⟩ z) g t #[x,y,z]:=((h.set_ 0 x).set_ 1 y).set_ 2 z
section
variable (g:Nat) (pA:Addr) (pc B:Nat) (w:World) (h:LedAt w g 0) (hB:B<=g)
include g pA pc B w h hB
theorem ship_aw:Calls prog 44 #[.pointer (some ⟨g,0,none⟩),.agg (awCmd pA pc)] w fun x w'=>x=.returned (.agg #[.int .i64 121,.int .i64 0,.int .i64 0])/\LedAt w' g 1/\Below B w w'/\Save g w w':=by
 obtain⟨m1,m2,h⟩:=h
 have hg:=h.lt
 have hk:=(h.alloc (.cells (awCmd pA pc) 47)).alloc (.cells #[.int .i64 0,.int .i64 0,.int .i64 0] 50)
 have c3:=hk.cell 3
 have c4:=hk.cell 4
 have c7:=hk.cell 7
 have f7:=hk.frozen 7
 simp at c3 c4 c7
 have HK:=J hk
 clear h hk
 go_enter func44,ntmps44
 go_wp2_with fail
 go_quiet (fail)
 go_wp2_with fail
 have hk2:=(((HK.out.drewN nq).set_ 7 (.int .i64 1)).alloc (.cells #[.int .i64 2,.int .i64 1] 26))
 have hres:=((((Blk.new (w.alloc (.cells (awCmd pA pc) 47)) 50 #[.int .i64 0,.int .i64 0,.int .i64 0]).drewN nq).far (p:=⟨g,7,none⟩) (by simp;omega) (.int .i64 1)).alloc (.cells #[.int .i64 2,.int .i64 1] 26))
 have hbl:Below B w _:=((below_drewN (((Below.refl B w).alloc (by omega) (.cells (awCmd pA pc) 47)).alloc (by simp;omega) (.cells #[.int .i64 0,.int .i64 0,.int .i64 0] 50)) nq).setCell (p:=⟨g,7,none⟩) hB (.int .i64 1)).alloc (by simp;omega) (.cells #[.int .i64 2,.int .i64 1] 26)
 have hsz:(w.alloc (.cells (awCmd pA pc) 47)).heap.size=w.heap.size+1:=by simp
 rw [hsz] at hres
 have hl2:LedAt _ g 1:=⟨m1,m2,hk2⟩
 have hsm:Save g w _:=fun b hb hne=>(Below.heap_alloc _ (.cells #[.int .i64 2,.int .i64 1] 26) b (by simp;omega)).trans ((Below.heap_setCell _ ⟨g,7,none⟩ (.int .i64 1) b hne).trans (show (((w.alloc (.cells (awCmd pA pc) 47)).alloc (.cells #[.int .i64 0,.int .i64 0,.int .i64 0] 50)).drewN nq).heap[b]? = _ from (Below.heap_alloc _ _ b (by simp;omega)).trans (Below.heap_alloc _ _ b hb)))
 refine (hasLed_aw g 1 _ hl2).mono ?_
 rintro x w5 ⟨rfl,hb5⟩
 have hl5:=hl2.below hb5 hl2.lt
 have hr5:=hres.below hb5 hres.lt
 have hbl5:=hbl.trans (hb5.mono (by simp;omega))
 have hs5:=hsm.below (by simp;omega) hb5
 obtain⟨HS5,HL5,HR5,HB5⟩:=J4 hs5 hl5 hr5 hbl5
 clear hk2 hres hbl hsz hl2 hb5 hl5 hr5 hbl5 hsm hs5
 go_wp2_with fail
 refine (failed_any 121 _).mono ?_
 rintro x w6 ⟨rfl,hb6⟩
 have hl6:=HL5.out.below hb6 HL5.out.lt
 have hr6:=HR5.out.below hb6 HR5.out.lt
 have hbl6:=HB5.out.trans (hb6.mono (by have:=HL5.out.lt;omega))
 have hs6:=HS5.out.below HB5.out.size hb6
 have HS6:=J hs6
 have f0:=hr6.frozen
 obtain⟨d0,d1,d2⟩:=hr6.cs 0 3
 obtain⟨HL6,HR6,HB6⟩:=J3 hl6 hr6 hbl6
 clear hb6 hl6 hr6 hbl6 hs6 c3 c4 c7 f7
 go_wp2
 have e0:=(set3 HR6.out (.int .i64 121) (.int .i64 0) (.int .i64 0)).cell 0
 have e1:=(set3 HR6.out (.int .i64 121) (.int .i64 0) (.int .i64 0)).cell 1
 have e2:=(set3 HR6.out (.int .i64 121) (.int .i64 0) (.int .i64 0)).cell 2
 refine bodyPost_ret (v:=.agg #[.int .i64 121,.int .i64 0,.int .i64 0]) (by simp [results,results44,e0,e1,e2,go_sem]) rfl ?_
 refine⟨rfl,?_,((HB6.out.setCell (p:=⟨_,0,none⟩) (by simp;omega) _).setCell (p:=⟨_,1,none⟩) (by simp;omega) _).setCell (p:=⟨_,2,none⟩) (by simp;omega) _,((HS6.out.set (p:=⟨_,0,none⟩) (by simp) _).set (p:=⟨_,1,none⟩) (by simp) _).set (p:=⟨_,2,none⟩) (by simp) _⟩
 obtain⟨n1,n2,hh⟩:=HL6.out
 exact Y208
theorem apply_aw:Calls prog 13 #[.pointer (some ⟨g,0,none⟩),.agg (awCmd pA pc)] w fun x w'=>x=.returned (.agg #[.int .i64 121,.int .i64 0,.int .i64 0])/\LedAt w' g 1/\Below B w w'/\Save g w w':=by
 have hg:=h.lt
 have hl:=(h.below (B:=w.heap.size) (W':=(w.alloc (.cells (awCmd pA pc) 47)).alloc (.cells #[.int .i64 0,.int .i64 0,.int .i64 0] 50)) (((Below.refl _ _).alloc (Nat.le_refl _) _).alloc (by simp) _) hg)
 have hcb:=(Blk.new w 47 (awCmd pA pc)).alloc (.cells #[.int .i64 0,.int .i64 0,.int .i64 0] 50)
 have hres:=Blk.new (w.alloc (.cells (awCmd pA pc) 47)) 50 #[.int .i64 0,.int .i64 0,.int .i64 0]
 have hsz:(w.alloc (.cells (awCmd pA pc) 47)).heap.size=w.heap.size+1:=by simp
 rw [hsz] at hres
 have hbs:Below w w ((w.alloc (.cells (awCmd pA pc) 47)).alloc (.cells #[.int .i64 0,.int .i64 0,.int .i64 0] 50)):=((Below.refl _ w).alloc (Nat.le_refl _) _).alloc (by simp) _
 have hbl:Below B w ((w.alloc (.cells (awCmd pA pc) 47)).alloc (.cells #[.int .i64 0,.int .i64 0,.int .i64 0] 50)):=((Below.refl B w).alloc (by omega) _).alloc (by simp;omega) _
 obtain⟨HL,HCB,HRES,HBL,HBS⟩:=J5 hl hcb hres hbl hbs
 clear h hl hcb hres hsz hbl hbs
 go_enter func13,ntmps13
 go_wp2_with fail
 refine (deed_aw pA pc _).mono ?_
 rintro x w1 ⟨rfl,hb1⟩
 have hl1:=HL.out.below hb1 HL.out.lt
 have hcb1:=HCB.out.below hb1 HCB.out.lt
 have hres1:=HRES.out.below hb1 HRES.out.lt
 have hbl1:=HBL.out.trans (hb1.mono (by simp;omega))
 obtain⟨c0,c1,c2,c3,c4,c5,c6,c7,c8,c9,c10,c11,c12,c13,c14,c15⟩:=hcb1.cs 0 16
 have hs1:=HBS.out.trans (hb1.mono HBS.out.size)
 obtain⟨HS1,HL1,HR1,HB1⟩:=J4 hs1 hl1 hres1 hbl1
 clear hb1 hl1 hcb1 hres1 hbl1 hs1
 go_wp2_with fail
 refine (ship_aw g pA pc B w1 HL1.out hB).mono ?_
 rintro x w2 ⟨rfl,hl2,hb2,hs2⟩
 have hr2:=hs2.blk HR1.out (by omega)
 have f0:=hr2.frozen
 obtain⟨d0,d1,d2⟩:=hr2.cs 0 3
 obtain⟨HL2,HR2⟩:=J2 hl2 hr2
 have HB2:=J (HB1.out.trans hb2)
 have HS2:=J ((Save.of (g:=g) HS1.out).trans HS1.out.size hs2)
 clear hl2 hb2 hs2 hr2
 go_wp2
 have e0:=(set3 HR2.out (.int .i64 121) (.int .i64 0) (.int .i64 0)).cell 0
 have e1:=(set3 HR2.out (.int .i64 121) (.int .i64 0) (.int .i64 0)).cell 1
 have e2:=(set3 HR2.out (.int .i64 121) (.int .i64 0) (.int .i64 0)).cell 2
 refine bodyPost_ret (v:=.agg #[.int .i64 121,.int .i64 0,.int .i64 0]) (by simp [results,results13,e0,e1,e2,go_sem]) rfl ?_
 refine⟨rfl,?_,((HB2.out.setCell (p:=⟨_,0,none⟩) (by simp;omega) _).setCell (p:=⟨_,1,none⟩) (by simp;omega) _).setCell (p:=⟨_,2,none⟩) (by simp;omega) _,((HS2.out.set (p:=⟨_,0,none⟩) (by simp) _).set (p:=⟨_,1,none⟩) (by simp) _).set (p:=⟨_,2,none⟩) (by simp) _⟩
 obtain⟨n1,n2,hh⟩:=HL2.out
 exact Y208
end
end
def setL (L:Nat->Bool) (i:Nat):Nat->Bool:=fun j=>if j=i then true else L j
section
variable {a:Act} {l:Array Bool} {ops:Array Oper} {i id:Nat} {P:Program} {w:World} {Q:Z}
theorem setL_get (hi:i<l.size):(fun j=>(l.setIfInBounds i true).getD j false)=setL (fun j=>l.getD j false) i:=by
 funext j
 unfold setL
 by_cases hj:j=i
 ·subst hj
  rw [if_pos rfl]
  simp [Array.getD,hi]
 ·rw [if_neg hj]
  have hij:¬ i=j:=fun e=>hj e.symm
  by_cases hjl:j<l.size
  ·simp [Array.getD,hjl,hij]
  ·simp [Array.getD,hjl]
theorem wp_region_inv (hm:P.follows .mixedOrders=true) (I:(Nat->Bool)->(Nat->Value)->World->Prop) (hsz':drawOk3 ops a.tmps.size=true) (hI:∀ U,I (fun _=>false) U {w with drawn:=w.drawn+1}) (hstep:∀ (i:Nat) (o:Oper) (F:Act) (L:Nat->Bool) (U:Nat->Value) (W:World),ops[i]? = some o->I L U W->L i=false->(∀ (j:Nat) (t:Tmp),j<ops.size->dstAt ops j=some t->F.eval (.tmp t)=U j)->(∀ t:Tmp,(∀ j,j<ops.size->dstAt ops j≠some t)->F.eval (.tmp t)=a.eval (.tmp t))->(∀ e∈o.after,Region.binds .any e=true->L e.on=true)->(Region.wanted o (yielded ops F.tmps)=true->o.wp P F W (fun a' W'=>∃ v,a'=F.put o.dst v/\I (setL L i) (updU U i v) W') Q)/\(Region.wanted o (yielded ops F.tmps)=false->I (setL L i) (updU U i undef) W)) (hend:∀ (U:Nat->Value) (L:Nat->Bool) (W:World),I L U W->(∀ i,i<ops.size->L i=true)->Q .normal (putU ops a U ops.size) W):(Code.region id ops true).wp P Q a w:=by
 refine wp_region_any hm ?_
 obtain⟨hsz,hd',hback⟩:=drawOk3_spec hsz'
 have main:∀ (fuel:Nat) (l:Array Bool) (U:Nat->Value) (W:World),l.size=ops.size->I (fun j=>l.getD j false) U W->
  ((List.range ops.size).filter fun i=>!l.getD i false).length<=fuel->wpAny P .any ops Q fuel l (putU ops a U ops.size) W:=by
  intro fuel
  induction fuel with
  | zero=>
   intro l U W hl hIW hf
   have hall:∀ i,i<ops.size->l.getD i false=true:=fun i hi=>by
    cases hb:l.getD i false with
    | true=>rfl
    | false=>
     have:i∈(List.range ops.size).filter fun i=>!l.getD i false:=List.mem_filter.2 ⟨List.mem_range.2 hi,by rw [hb];rfl⟩
     rw [List.eq_nil_of_length_eq_zero (Nat.le_zero.1 hf)] at this
     cases this
   refine⟨?_,hend U _ W hIW hall⟩
   apply List.eq_nil_iff_forall_not_mem.2
   intro i hi
   obtain⟨o,ho,hln,_⟩:=ready_spec hi
   have hio:i<ops.size:=by
    exact Y210
   have:=hall i hio
   have hil:i<l.size:=by omega
   simp [Array.getD,hil] at this hln
   rw [this] at hln
   cases hln
  | succ fuel ih=>
   intro l U W hl hIW hf
   refine⟨fun hr=>hend U _ W hIW (ready_some hl (fun i o ho=>hback i o ho) hr),fun i hi=>?_⟩
   obtain⟨o,ho,hln,hpre⟩:=ready_spec hi
   have hio:i<ops.size:=by
    exact Y210
   have hil:i<l.size:=by omega
   have hlf:l.getD i false=false:=by
    exact Y140
   unfold wpOp
   rw [ho]
   have hdo:o.dst=dstAt ops i:=by unfold dstAt;rw [ho];rfl
   have fewer:((List.range ops.size).filter fun j=>!(l.setIfInBounds i true).getD j false).length<=fuel:=by
    exact Y11
   have hst:=hstep i o (putU ops a U ops.size) (fun j=>l.getD j false) U W ho hIW hlf (fun j t hj ht=>putU_at ops.size hd' j hj t ht (hsz j hj t ht)) (fun t ht=>putU_off ops.size t ht) hpre
   by_cases hw:Region.wanted o (yielded ops (putU ops a U ops.size).tmps)=true
   ·simp only [hw,if_true]
    left
    refine Oper.wp_mono ?_ (hst.1 hw)
    rintro a' W' ⟨v,rfl,hI'⟩
    rw [hdo,putU_put2 ops.size i hio v hd']
    refine ih _ _ _ (by simp [hl]) ?_ fewer
    rw [setL_get hil]
    exact hI'
   ·have hw':Region.wanted o (yielded ops (putU ops a U ops.size).tmps)=false:=by simpa using hw
    simp only [hw',Bool.false_eq_true,if_false]
    rw [hdo,putU_put2 ops.size i hio undef hd']
    refine ih _ _ _ (by simp [hl]) ?_ fewer
    rw [setL_get hil]
    exact hst.2 hw'
 obtain⟨U,hU⟩:=putU_self (ops:=ops) (a:=a) ops.size hsz
 have:=main ops.size (Array.replicate ops.size false) U {w with drawn:=w.drawn+1} (by simp) (by
  have e:(fun j=>(Array.replicate ops.size false).getD j false)=fun _=>false:=by
   funext j
   by_cases hj:j<ops.size
   ·simp [Array.getD,hj]
   ·simp [Array.getD,hj]
  rw [e]
  exact hI U) (Nat.le_trans (List.length_filter_le _ _) (by simp))
 rw [hU] at this
 exact this
end
def chainOk (ops:Array Oper):List Nat->Bool
 | []=>true
 | [p]=>decide (p<ops.size)
 | p::q::r=>decide (p<q)&&(decide (p<ops.size)&&(hasEdge ops q p&&chainOk ops (q::r)))
section
variable {a:Act} {ops:Array Oper} {l:List Nat} {i id j:Nat} {P:Program} {w:World} {Q:Z}
theorem hasEdge_spec (h:hasEdge ops j i=true):∃ o,ops[j]? = some o/\∃ e∈o.after,Region.binds .any e=true/\e.on=i:=by
 unfold hasEdge at h
 split at h
 ·rename_i o ho
  obtain⟨e,he,h2⟩:=Array.any_eq_true'.1 h
  simp only [Bool.and_eq_true,beq_iff_eq] at h2
  exact⟨o,ho,e,he,h2.1,h2.2⟩
 ·cases h
theorem chainOk_edge:∀ {l:List Nat},chainOk ops l=true->∀ (k p q:Nat),l[k]? = some p->l[k+1]? = some q->hasEdge ops q p=true/\p<q
 | [],_,k,p,q,hp,_=>by simp at hp
 | [x],_,k,p,q,_,hq=>by simp at hq
 | x::y::r,h,k,p,q,hp,hq=>by
  simp only [chainOk,Bool.and_eq_true,decide_eq_true_eq] at h
  cases k with
  | zero=>
   simp at hp hq
   subst hp hq
   exact⟨h.2.2.1,h.1⟩
  | succ k=>exact chainOk_edge h.2.2.2 k p q (by simpa using hp) (by simpa using hq)
theorem chainOk_lt:∀ {l:List Nat},chainOk ops l=true->∀ (k p:Nat),l[k]? = some p->p<ops.size
 | [],_,k,p,hp=>by simp at hp
 | [x],h,k,p,hp=>by
  cases k with
  | zero=>simp at hp;subst hp;exact of_decide_eq_true h
  | succ k=>simp at hp
 | x::y::r,h,k,p,hp=>by
  simp only [chainOk,Bool.and_eq_true,decide_eq_true_eq] at h
  cases k with
  | zero=>simp at hp;subst hp;exact h.2.1
  | succ k=>exact chainOk_lt h.2.2.2 k p (by simpa using hp)
theorem chainOk_inc (h:chainOk ops l=true):∀ (k j p q:Nat),k<j->l[k]? = some p->l[j]? = some q->p<q:=by
 intro k j
 induction j with
 | zero=>intro p q hk;omega
 | succ j ih=>
  intro p q hk hp hq
  obtain⟨m,hm⟩:∃ m,l[j]? = some m:=by
   have:j+1<l.length:=by
    rcases Nat.lt_or_ge (j+1) l.length with h|h
    ·exact h
    ·rw [List.getElem?_eq_none h] at hq;cases hq
   exact⟨_,List.getElem?_eq_getElem (by omega)⟩
  have:=(chainOk_edge h j m q hm hq).2
  rcases Nat.lt_or_ge k j with h1|h1
  ·have:=ih p m h1 hp hm;omega
  ·have:k=j:=by omega
   subst this
   rw [hp] at hm
   injection hm with hm
   omega
theorem wp_region_chain (hm:P.follows .mixedOrders=true) (chain:List Nat) (c:Nat->Value) (S:List Value->World->Prop) (early:Nat->Nat->Bool) (hsz':drawOk3 ops a.tmps.size=true) (hch:chainOk ops chain=true) (hearly:earlyOk ops chain early=true) (hng:(ops.all fun o=>o.guard.isNone)=true) (hS:S [] {w with drawn:=w.drawn+1}) (hfree:∀ (i:Nat) (o:Oper) (F:Act) (U:Nat->Value) (vs:List Value) (W:World),ops[i]? = some o->i∉chain->S vs W->vs.length<=chain.length->(∀ (k s:Nat),chain[k]? = some s->early s i=true->vs.length<=k)->(∀ (j:Nat) (t:Tmp),j<ops.size->dstAt ops j=some t->F.eval (.tmp t)=U j)->(∀ t:Tmp,(∀ j,j<ops.size->dstAt ops j≠some t)->F.eval (.tmp t)=a.eval (.tmp t))->(∀ e∈o.after,Region.binds .any e=true->(e.on∉chain->U e.on=c e.on)/\(∀ k:Nat,chain[k]? = some e.on->vs[k]? = some (U e.on)))->o.wp P F W (fun a' W'=>a'=F.put o.dst (c i)/\W'=W) Q) (hlink:∀ (k i:Nat) (o:Oper) (F:Act) (U:Nat->Value) (vs:List Value) (W:World),chain[k]? = some i->ops[i]? = some o->S vs W->vs.length=k->(∀ (j:Nat) (t:Tmp),j<ops.size->dstAt ops j=some t->F.eval (.tmp t)=U j)->(∀ t:Tmp,(∀ j,j<ops.size->dstAt ops j≠some t)->F.eval (.tmp t)=a.eval (.tmp t))->(∀ e∈o.after,Region.binds .any e=true->(e.on∉chain->U e.on=c e.on)/\(∀ k:Nat,chain[k]? = some e.on->vs[k]? = some (U e.on)))->o.wp P F W (fun a' W'=>∃ v,a'=F.put o.dst v/\S (vs++[v]) W') Q) (hend:∀ (U:Nat->Value) (vs:List Value) (W:World),S vs W->vs.length=chain.length->(∀ i,i<ops.size->i∉chain->U i=c i)->(∀ (k i:Nat),chain[k]? = some i->vs[k]? = some (U i))->Q .normal (putU ops a U ops.size) W):(Code.region id ops true).wp P Q a w:=by
 refine wp_region_inv hm (fun L U W=>(∀ j oj,ops[j]? = some oj->L j=true->∀ e∈oj.after,Region.binds .any e=true->L e.on=true)/\∃ vs,S vs W/\vs.length<=chain.length/\
  (∀ (k i:Nat),chain[k]? = some i->(L i=true↔k<vs.length))/\(∀ (k i:Nat) (v:Value),chain[k]? = some i->vs[k]? = some v->U i=v)/\(∀ i,L i=true->i∉chain->U i=c i)) hsz' ?_ ?_ ?_
 ·intro U
  exact⟨fun j oj _ h=>absurd h (by simp),[],hS,Nat.zero_le _,fun k i _=>by simp,fun k i v _ hv=>by simp at hv,fun i h=>absurd h (by simp)⟩
 ·rintro i o F L U W ho ⟨hcl,vs,hSW,hlen,hin,hval,hfr⟩ hLi hat hoff hpre
  have hio:i<ops.size:=by
   exact Y210
  have hguard:o.guard=none:=by
   have h1:=Array.all_eq_true_iff_forall_mem.1 hng o (Array.mem_of_getElem? ho)
   simpa using h1
  have hwant:Region.wanted o (yielded ops F.tmps)=true:=wanted_none hguard
  refine⟨fun _=>?_,fun h=>(by rw [hwant] at h;cases h)⟩
  have hdeps:∀ e∈o.after,Region.binds .any e=true->(e.on∉chain->U e.on=c e.on)/\(∀ k:Nat,chain[k]? = some e.on->vs[k]? = some (U e.on)):=by
   intro e he hbe
   have hle:=hpre e he hbe
   refine⟨fun hn=>hfr _ hle hn,fun k hk=>?_⟩
   have hk':=(hin k _ hk).1 hle
   have h2:=List.getElem?_eq_getElem hk'
   rw [h2,hval k _ _ hk h2]
  have hcl':∀ j oj,ops[j]? = some oj->setL L i j=true->∀ e∈oj.after,Region.binds .any e=true->setL L i e.on=true:=by
   intro j oj hoj hl e he hbe
   have up:∀ k,L k=true->setL L i k=true:=by
    intro k hk
    unfold setL
    split
    ·rfl
    ·exact hk
   by_cases hji:j=i
   ·subst hji
    exact Y204
   ·unfold setL at hl
    rw [if_neg hji] at hl
    exact up _ (hcl j oj hoj hl e he hbe)
  by_cases hmem:i∈chain
  ·obtain⟨k,hk⟩:=List.getElem?_of_mem hmem
   have hge:¬ k<vs.length:=fun h=>by
    have:=(hin k i hk).2 h
    rw [hLi] at this
    cases this
   have hke:vs.length=k:=by
    rcases Nat.eq_zero_or_pos k with h0|h0
    ·omega
    ·have hkl : k < chain.length := by
      exact Y178
     obtain⟨p,hp⟩:∃ p,chain[k-1]? = some p:=⟨_,List.getElem?_eq_getElem (by omega)⟩
     have hk1:chain[k-1+1]? = some i:=by rw [Nat.sub_add_cancel h0];exact hk
     obtain⟨oj,hoj,e,he,hbe,hon⟩:=hasEdge_spec (chainOk_edge hch (k-1) p i hp hk1).1
     rw [ho] at hoj
     injection hoj with hoj
     subst hoj
     have:=hpre e he hbe
     rw [hon] at this
     have:=(hin (k-1) p hp).1 this
     omega
   have hst:=hlink k i o F U vs W hk ho hSW hke hat hoff hdeps
   refine Oper.wp_mono ?_ hst
   rintro a' W' ⟨v,ha',hS'⟩
   have hkl:k<chain.length:=by
    exact Y178
   have hone:∀ k' i',chain[k']? = some i'->i'=i->k'=k:=by
    intro k' i' hk' e
    subst e
    rcases Nat.lt_trichotomy k' k with h|h|h
    ·have:=chainOk_inc hch k' k _ _ h hk' hk;omega
    ·exact h
    ·have:=chainOk_inc hch k k' _ _ h hk hk';omega
   refine⟨v,ha',hcl',vs++[v],hS',by simp;omega,?_,?_,?_⟩
   ·intro k' i' hk'
    unfold setL
    by_cases hi':i'=i
    ·rw [if_pos hi']
     have:=hone k' i' hk' hi'
     simp;omega
    ·rw [if_neg hi',hin k' i' hk']
     have:k'≠k:=fun e=>hi' (by subst e;rw [hk] at hk';injection hk' with hk';exact hk'.symm)
     simp;omega
   ·intro k' i' v' hk' hv'
    unfold updU
    by_cases hi':i'=i
    ·rw [if_pos hi']
     have:=hone k' i' hk' hi'
     subst this
     rw [List.getElem?_append_right (by omega)] at hv'
     simp [hke] at hv'
     exact hv'
    ·rw [if_neg hi']
     have hne:k'≠k:=fun e=>hi' (by subst e;rw [hk] at hk';injection hk' with hk';exact hk'.symm)
     have hlt:k'<(vs++[v]).length:=by
      rcases Nat.lt_or_ge k' (vs++[v]).length with h|h
      ·exact h
      ·rw [List.getElem?_eq_none h] at hv';cases hv'
     simp at hlt
     rw [List.getElem?_append_left (by omega)] at hv'
     exact hval k' i' v' hk' hv'
   ·intro j hj hn
    unfold setL at hj
    unfold updU
    by_cases hji:j=i
    ·subst hji;exact absurd hmem hn
    ·rw [if_neg hji] at hj ⊢
     exact hfr j hj hn
  ·have hlim : ∀ k s, chain[k]? = some s -> early s i = true -> vs.length <= k := by
    intro k s hk he
    rcases Nat.lt_or_ge k vs.length with h|h
    ·have hls:=(hin k s hk).2 h
     have:=early_done hearly (l:=L) hcl (List.mem_of_getElem? hk) hls i hio he
     rw [hLi] at this
     cases this
    ·exact h
   have hst:=hfree i o F U vs W ho hmem hSW hlen hlim hat hoff hdeps
   refine Oper.wp_mono ?_ hst
   rintro a' W' ⟨ha',rfl⟩
   refine⟨c i,ha',hcl',vs,hSW,hlen,?_,?_,?_⟩
   ·intro k i' hk
    unfold setL
    have:i'≠i:=fun e=>hmem (e▸List.mem_of_getElem? hk)
    rw [if_neg this]
    exact hin k i' hk
   ·intro k i' v hk hv
    unfold updU
    have:i'≠i:=fun e=>hmem (e▸List.mem_of_getElem? hk)
    rw [if_neg this]
    exact hval k i' v hk hv
   ·intro j hj hn
    unfold setL at hj
    unfold updU
    by_cases hji:j=i
    ·rw [if_pos hji,hji]
    ·rw [if_neg hji] at hj ⊢
     exact hfr j hj hn
 ·rintro U L W ⟨hcl,vs,hSW,hlen,hin,hval,hfr⟩ hall
  have hl:vs.length=chain.length:=by
   rcases Nat.lt_or_ge vs.length chain.length with h|h
   ·have h2:=List.getElem?_eq_getElem h
    have:=(hin _ _ h2).1 (hall _ (chainOk_lt hch _ _ h2))
    omega
   ·omega
  refine hend U vs W hSW hl (fun i hi hn=>hfr i (hall i hi) hn) fun k i hk=>?_
  have hkl:k<vs.length:=by
   rcases Nat.lt_or_ge k chain.length with h|h
   ·omega
   ·rw [List.getElem?_eq_none h] at hk;cases hk
  have h2:=List.getElem?_eq_getElem hkl
  rw [h2,hval k i _ hk h2]
end


theorem field_ops (kind term index prev commit:Int) (good:Bool) (eA:O) (en ec:Nat) (data:ByteArray) (hA:O) (hn hc:Nat) (epoch site atN atE whN whE:Int) (oA:O) (on oc:Nat) (pA:O) (pn pc:Nat) (w:World) :
 (Instr.field 30 (.agg (mailC kind term index prev commit good eA en ec data hA hn hc epoch site atN atE whN whE oA on oc pA pn pc)) 14).run prog w=.ok (.slice pA pn pc) w:=by
 kernel_rfl
end Go.Proofs.Ytaipgdhdfpemcaa
