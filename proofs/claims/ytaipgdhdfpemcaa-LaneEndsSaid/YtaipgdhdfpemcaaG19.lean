/- THE WALKS OF THE LANE, part 19. -/
import Derived.Test.YtaipgdhdfpemcaaG4
namespace Go.Proofs.Ytaipgdhdfpemcaa
set_option linter.all false
open Go.RowKit
set_option maxRecDepth 100000
set_option maxHeartbeats 4000000
def hasEdge (ops:Array Oper) (j i:Nat):Bool:=match ops[j]? with
 | some o=>o.after.any fun e=>Region.binds .any e&&e.on==i
 | none=>false
def earlyOk (ops:Array Oper) (stages:List Nat) (early:Nat->Nat->Bool):Bool:=
 stages.all fun s=>(List.range ops.size).all fun i=>!early s i||i==s||(List.range ops.size).any fun j=>early s j&&(decide (i<j)&&hasEdge ops j i)
section
variable {a:Act} {ops:Array Oper} {stages:List Nat} {id s:Nat} {l:Nat->Bool} {early:Nat->Nat->Bool} {P:Program} {w:World} {Q:Z}
theorem early_done (h:earlyOk ops stages early=true) (hcl:∀ j oj,ops[j]? = some oj->l j=true->∀ e∈oj.after,Region.binds .any e=true->l e.on=true) (hs:s∈stages) (hd:l s=true) :
 ∀ i,i<ops.size->early s i=true->l i=true:=by
 have key:∀ k i,ops.size-i=k->i<ops.size->early s i=true->l i=true:=by
  intro k
  induction k using Nat.strongRecOn with
  | _ k ih=>
   intro i hk hi he
   have h1:=List.all_eq_true.1 (List.all_eq_true.1 h s hs) i (List.mem_range.2 hi)
   rw [he] at h1
   simp only [Bool.not_true,Bool.false_or,Bool.or_eq_true,beq_iff_eq] at h1
   rcases h1 with h1|h1
   ·rw [h1];exact hd
   ·obtain⟨j,hj,h2⟩:=List.any_eq_true.1 h1
    simp only [Bool.and_eq_true,decide_eq_true_eq] at h2
    have hj':=List.mem_range.1 hj
    have hlj:=ih (ops.size-j) (by omega) j rfl hj' h2.1
    have h3:=h2.2.2
    unfold hasEdge at h3
    rw [Array.getElem?_eq_getElem hj'] at h3
    simp only at h3
    obtain⟨e,he1,he2⟩:=Array.any_eq_true'.1 h3
    simp only [Bool.and_eq_true,beq_iff_eq] at he2
    have:=hcl j _ (Array.getElem?_eq_getElem hj') hlj e he1 he2.1
    rw [he2.2] at this
    exact this
 exact fun i hi he=>key _ i rfl hi he
theorem wp_region_stage (hm:P.follows .mixedOrders=true) (V:Nat->Value->World->Prop) (G:World->Prop) (N:Nat->World->Prop) (stages:List Nat) (early:Nat->Nat->Bool) (Ext:World->World->Prop) (hsz':drawOk3 ops a.tmps.size=true) (hearly:earlyOk ops stages early=true) (hN:∀ s∈stages,N s {w with drawn:=w.drawn+1}) (hG:G {w with drawn:=w.drawn+1}) (hmono:∀ i v W W',Ext W W'->V i v W->V i v W') (hstep:∀ (i:Nat) (o:Oper) (F:Act) (U:Nat->Value) (W:World),ops[i]? = some o->G W->(∀ s∈stages,early s i=true->N s W)->(∀ (j:Nat) (t:Tmp),j<ops.size->dstAt ops j=some t->F.eval (.tmp t)=U j)->(∀ t:Tmp,(∀ j,j<ops.size->dstAt ops j≠some t)->F.eval (.tmp t)=a.eval (.tmp t))->(∀ e∈o.after,Region.binds .any e=true->V e.on (U e.on) W)->(Region.wanted o (yielded ops F.tmps)=true->o.wp P F W (fun a' W'=>∃ v,a'=F.put o.dst v/\V i v W'/\G W'/\Ext W W'/\∀ s∈stages,s≠i->N s W->N s W') Q)/\(Region.wanted o (yielded ops F.tmps)=false->V i undef W)) (hend:∀ (U:Nat->Value) (W:World),G W->(∀ i,i<ops.size->V i (U i) W)->Q .normal (putU ops a U ops.size) W):(Code.region id ops true).wp P Q a w:=by
 refine wp_region_any hm ?_
 obtain⟨hsz,hd',hback⟩:=drawOk3_spec hsz'
 have main:∀ (fuel:Nat) (l:Array Bool) (U:Nat->Value) (W:World),l.size=ops.size->G W->(∀ i,i<ops.size->l.getD i false=true->V i (U i) W)->(∀ i o,ops[i]? = some o->l.getD i false=true->∀ e∈o.after,Region.binds .any e=true->l.getD e.on false=true)->(∀ s∈stages,l.getD s false=false->N s W)->
  ((List.range ops.size).filter fun i=>!l.getD i false).length<=fuel->wpAny P .any ops Q fuel l (putU ops a U ops.size) W:=by
  intro fuel
  induction fuel with
  | zero=>
   intro l U W hl hGW hV hcl hNl hf
   exact Y5
  | succ fuel ih=>
   intro l U W hl hGW hV hcl hNl hf
   refine⟨fun hr=>hend U W hGW fun i hi=>hV i hi (ready_some hl (fun i o ho=>hback i o ho) hr i hi),fun i hi=>?_⟩
   obtain⟨o,ho,hln,hpre⟩:=ready_spec hi
   have hio:i<ops.size:=by
    exact Y142
   have hil:i<l.size:=by omega
   have hlf:l.getD i false=false:=by
    exact Y86
   have hb:=hback i o ho
   unfold wpOp
   rw [ho]
   have hdo:o.dst=dstAt ops i:=by unfold dstAt;rw [ho];rfl
   have fewer:((List.range ops.size).filter fun j=>!(l.setIfInBounds i true).getD j false).length<=fuel:=by
    exact Y8
   have hold:∀ j,j<ops.size->(l.setIfInBounds i true).getD j false=true->j≠i->l.getD j false=true:=by
    intro j hj hlj hji
    exact Y29
   have hnot:∀ s∈stages,early s i=true->N s W:=by
    intro s hs he
    refine hNl s hs ?_
    cases hb2:l.getD s false with
    | false=>rfl
    | true=>
     exact Y92
   have hst:=hstep i o (putU ops a U ops.size) U W ho hGW hnot (fun j t hj ht=>putU_at ops.size hd' j hj t ht (hsz j hj t ht)) (fun t ht=>putU_off ops.size t ht) (fun e he hbe=>by
    have hlt:=hb e he hbe
    exact hV e.on (by omega) (hpre e he hbe))
   have hcl':∀ j oj,ops[j]? = some oj->(l.setIfInBounds i true).getD j false=true->∀ e∈oj.after,Region.binds .any e=true->(l.setIfInBounds i true).getD e.on false=true:=by
    exact Y22
   have down:∀ s,(l.setIfInBounds i true).getD s false=false->s≠i/\l.getD s false=false:=by
    exact Y64
   by_cases hw:Region.wanted o (yielded ops (putU ops a U ops.size).tmps)=true
   ·simp only [hw,if_true]
    left
    refine Oper.wp_mono ?_ (hst.1 hw)
    rintro a' W' ⟨v,rfl,hv,hG',hx,hn'⟩
    rw [hdo,putU_put2 ops.size i hio v hd']
    refine ih _ _ _ (by simp [hl]) hG' (fun j hj hlj=>?_) hcl' (fun s hs hf=>hn' s hs (down s hf).1 (hNl s hs (down s hf).2)) fewer
    exact Y56
   ·have hw':Region.wanted o (yielded ops (putU ops a U ops.size).tmps)=false:=by simpa using hw
    simp only [hw',Bool.false_eq_true,if_false]
    rw [hdo,putU_put2 ops.size i hio undef hd']
    refine ih _ _ _ (by simp [hl]) hGW (fun j hj hlj=>?_) hcl' (fun s hs hf=>hNl s hs (down s hf).2) fewer
    exact Y61
 obtain⟨U,hU⟩:=putU_self (ops:=ops) (a:=a) ops.size hsz
 have:=main ops.size (Array.replicate ops.size false) U {w with drawn:=w.drawn+1} (by simp) hG (fun i hi h=>by simp [Array.getD,hi] at h) (fun i o ho h=>by
  have hi:i<ops.size:=by
   exact Y142
  simp [Array.getD,hi] at h) (fun s hs _=>hN s hs) (Nat.le_trans (List.length_filter_le _ _) (by simp))
 rw [hU] at this
 exact this
end
def setL (L:Nat->Bool) (i:Nat):Nat->Bool:=fun j=>if j=i then true else L j
section
variable {a:Act} {l:Array Bool} {ops:Array Oper} {i id:Nat} {P:Program} {w:World} {Q:Z}
theorem setL_get (hi:i<l.size):(fun j=>(l.setIfInBounds i true).getD j false)=setL (fun j=>l.getD j false) i:=by
 funext j
 unfold setL
 by_cases hj:j=i
 ·subst hj
  rw [if_pos rfl]
  simp [Array.getD,hi]
 ·rw [if_neg hj]
  have hij:¬ i=j:=fun e=>hj e.symm
  by_cases hjl:j<l.size
  ·simp [Array.getD,hjl,hij]
  ·simp [Array.getD,hjl]
theorem wp_region_inv (hm:P.follows .mixedOrders=true) (I:(Nat->Bool)->(Nat->Value)->World->Prop) (hsz':drawOk3 ops a.tmps.size=true) (hI:∀ U,I (fun _=>false) U {w with drawn:=w.drawn+1}) (hstep:∀ (i:Nat) (o:Oper) (F:Act) (L:Nat->Bool) (U:Nat->Value) (W:World),ops[i]? = some o->I L U W->L i=false->(∀ (j:Nat) (t:Tmp),j<ops.size->dstAt ops j=some t->F.eval (.tmp t)=U j)->(∀ t:Tmp,(∀ j,j<ops.size->dstAt ops j≠some t)->F.eval (.tmp t)=a.eval (.tmp t))->(∀ e∈o.after,Region.binds .any e=true->L e.on=true)->(Region.wanted o (yielded ops F.tmps)=true->o.wp P F W (fun a' W'=>∃ v,a'=F.put o.dst v/\I (setL L i) (updU U i v) W') Q)/\(Region.wanted o (yielded ops F.tmps)=false->I (setL L i) (updU U i undef) W)) (hend:∀ (U:Nat->Value) (L:Nat->Bool) (W:World),I L U W->(∀ i,i<ops.size->L i=true)->Q .normal (putU ops a U ops.size) W):(Code.region id ops true).wp P Q a w:=by
 refine wp_region_any hm ?_
 obtain⟨hsz,hd',hback⟩:=drawOk3_spec hsz'
 have main:∀ (fuel:Nat) (l:Array Bool) (U:Nat->Value) (W:World),l.size=ops.size->I (fun j=>l.getD j false) U W->
  ((List.range ops.size).filter fun i=>!l.getD i false).length<=fuel->wpAny P .any ops Q fuel l (putU ops a U ops.size) W:=by
  intro fuel
  induction fuel with
  | zero=>
   intro l U W hl hIW hf
   have hall:∀ i,i<ops.size->l.getD i false=true:=fun i hi=>by
    cases hb:l.getD i false with
    | true=>rfl
    | false=>
     have:i∈(List.range ops.size).filter fun i=>!l.getD i false:=List.mem_filter.2 ⟨List.mem_range.2 hi,by rw [hb];rfl⟩
     rw [List.eq_nil_of_length_eq_zero (Nat.le_zero.1 hf)] at this
     cases this
   refine⟨?_,hend U _ W hIW hall⟩
   apply List.eq_nil_iff_forall_not_mem.2
   intro i hi
   obtain⟨o,ho,hln,_⟩:=ready_spec hi
   have hio:i<ops.size:=by
    exact Y142
   have:=hall i hio
   have hil:i<l.size:=by omega
   simp [Array.getD,hil] at this hln
   rw [this] at hln
   cases hln
  | succ fuel ih=>
   intro l U W hl hIW hf
   refine⟨fun hr=>hend U _ W hIW (ready_some hl (fun i o ho=>hback i o ho) hr),fun i hi=>?_⟩
   obtain⟨o,ho,hln,hpre⟩:=ready_spec hi
   have hio:i<ops.size:=by
    exact Y142
   have hil:i<l.size:=by omega
   have hlf:l.getD i false=false:=by
    exact Y86
   unfold wpOp
   rw [ho]
   have hdo:o.dst=dstAt ops i:=by unfold dstAt;rw [ho];rfl
   have fewer:((List.range ops.size).filter fun j=>!(l.setIfInBounds i true).getD j false).length<=fuel:=by
    exact Y8
   have hst:=hstep i o (putU ops a U ops.size) (fun j=>l.getD j false) U W ho hIW hlf (fun j t hj ht=>putU_at ops.size hd' j hj t ht (hsz j hj t ht)) (fun t ht=>putU_off ops.size t ht) hpre
   by_cases hw:Region.wanted o (yielded ops (putU ops a U ops.size).tmps)=true
   ·simp only [hw,if_true]
    left
    refine Oper.wp_mono ?_ (hst.1 hw)
    rintro a' W' ⟨v,rfl,hI'⟩
    rw [hdo,putU_put2 ops.size i hio v hd']
    refine ih _ _ _ (by simp [hl]) ?_ fewer
    rw [setL_get hil]
    exact hI'
   ·have hw':Region.wanted o (yielded ops (putU ops a U ops.size).tmps)=false:=by simpa using hw
    simp only [hw',Bool.false_eq_true,if_false]
    rw [hdo,putU_put2 ops.size i hio undef hd']
    refine ih _ _ _ (by simp [hl]) ?_ fewer
    rw [setL_get hil]
    exact hst.2 hw'
 obtain⟨U,hU⟩:=putU_self (ops:=ops) (a:=a) ops.size hsz
 have:=main ops.size (Array.replicate ops.size false) U {w with drawn:=w.drawn+1} (by simp) (by
  have e:(fun j=>(Array.replicate ops.size false).getD j false)=fun _=>false:=by
   funext j
   by_cases hj:j<ops.size
   ·simp [Array.getD,hj]
   ·simp [Array.getD,hj]
  rw [e]
  exact hI U) (Nat.le_trans (List.length_filter_le _ _) (by simp))
 rw [hU] at this
 exact this
end
def chainOk (ops:Array Oper):List Nat->Bool
 | []=>true
 | [p]=>decide (p<ops.size)
 | p::q::r=>decide (p<q)&&(decide (p<ops.size)&&(hasEdge ops q p&&chainOk ops (q::r)))
section
variable {a:Act} {ops:Array Oper} {l:List Nat} {i id j:Nat} {P:Program} {w:World} {Q:Z}
theorem hasEdge_spec (h:hasEdge ops j i=true):∃ o,ops[j]? = some o/\∃ e∈o.after,Region.binds .any e=true/\e.on=i:=by
 unfold hasEdge at h
 split at h
 ·rename_i o ho
  obtain⟨e,he,h2⟩:=Array.any_eq_true'.1 h
  simp only [Bool.and_eq_true,beq_iff_eq] at h2
  exact⟨o,ho,e,he,h2.1,h2.2⟩
 ·cases h
theorem chainOk_edge:∀ {l:List Nat},chainOk ops l=true->∀ (k p q:Nat),l[k]? = some p->l[k+1]? = some q->hasEdge ops q p=true/\p<q
 | [],_,k,p,q,hp,_=>by simp at hp
 | [x],_,k,p,q,_,hq=>by simp at hq
 | x::y::r,h,k,p,q,hp,hq=>by
  simp only [chainOk,Bool.and_eq_true,decide_eq_true_eq] at h
  cases k with
  | zero=>
   simp at hp hq
   subst hp hq
   exact⟨h.2.2.1,h.1⟩
  | succ k=>exact chainOk_edge h.2.2.2 k p q (by simpa using hp) (by simpa using hq)
theorem chainOk_lt:∀ {l:List Nat},chainOk ops l=true->∀ (k p:Nat),l[k]? = some p->p<ops.size
 | [],_,k,p,hp=>by simp at hp
 | [x],h,k,p,hp=>by
  cases k with
  | zero=>simp at hp;subst hp;exact of_decide_eq_true h
  | succ k=>simp at hp
 | x::y::r,h,k,p,hp=>by
  simp only [chainOk,Bool.and_eq_true,decide_eq_true_eq] at h
  cases k with
  | zero=>simp at hp;subst hp;exact h.2.1
  | succ k=>exact chainOk_lt h.2.2.2 k p (by simpa using hp)
theorem chainOk_inc (h:chainOk ops l=true):∀ (k j p q:Nat),k<j->l[k]? = some p->l[j]? = some q->p<q:=by
 intro k j
 induction j with
 | zero=>intro p q hk;omega
 | succ j ih=>
  intro p q hk hp hq
  obtain⟨m,hm⟩:∃ m,l[j]? = some m:=by
   have:j+1<l.length:=by
    rcases Nat.lt_or_ge (j+1) l.length with h|h
    ·exact h
    ·rw [List.getElem?_eq_none h] at hq;cases hq
   exact⟨_,List.getElem?_eq_getElem (by omega)⟩
  have:=(chainOk_edge h j m q hm hq).2
  rcases Nat.lt_or_ge k j with h1|h1
  ·have:=ih p m h1 hp hm;omega
  ·have:k=j:=by omega
   subst this
   rw [hp] at hm
   injection hm with hm
   omega
theorem wp_region_chain (hm:P.follows .mixedOrders=true) (chain:List Nat) (c:Nat->Value) (S:List Value->World->Prop) (early:Nat->Nat->Bool) (hsz':drawOk3 ops a.tmps.size=true) (hch:chainOk ops chain=true) (hearly:earlyOk ops chain early=true) (hng:(ops.all fun o=>o.guard.isNone)=true) (hS:S [] {w with drawn:=w.drawn+1}) (hfree:∀ (i:Nat) (o:Oper) (F:Act) (U:Nat->Value) (vs:List Value) (W:World),ops[i]? = some o->i∉chain->S vs W->vs.length<=chain.length->(∀ (k s:Nat),chain[k]? = some s->early s i=true->vs.length<=k)->(∀ (j:Nat) (t:Tmp),j<ops.size->dstAt ops j=some t->F.eval (.tmp t)=U j)->(∀ t:Tmp,(∀ j,j<ops.size->dstAt ops j≠some t)->F.eval (.tmp t)=a.eval (.tmp t))->(∀ e∈o.after,Region.binds .any e=true->(e.on∉chain->U e.on=c e.on)/\(∀ k:Nat,chain[k]? = some e.on->vs[k]? = some (U e.on)))->o.wp P F W (fun a' W'=>a'=F.put o.dst (c i)/\W'=W) Q) (hlink:∀ (k i:Nat) (o:Oper) (F:Act) (U:Nat->Value) (vs:List Value) (W:World),chain[k]? = some i->ops[i]? = some o->S vs W->vs.length=k->(∀ (j:Nat) (t:Tmp),j<ops.size->dstAt ops j=some t->F.eval (.tmp t)=U j)->(∀ t:Tmp,(∀ j,j<ops.size->dstAt ops j≠some t)->F.eval (.tmp t)=a.eval (.tmp t))->(∀ e∈o.after,Region.binds .any e=true->(e.on∉chain->U e.on=c e.on)/\(∀ k:Nat,chain[k]? = some e.on->vs[k]? = some (U e.on)))->o.wp P F W (fun a' W'=>∃ v,a'=F.put o.dst v/\S (vs++[v]) W') Q) (hend:∀ (U:Nat->Value) (vs:List Value) (W:World),S vs W->vs.length=chain.length->(∀ i,i<ops.size->i∉chain->U i=c i)->(∀ (k i:Nat),chain[k]? = some i->vs[k]? = some (U i))->Q .normal (putU ops a U ops.size) W):(Code.region id ops true).wp P Q a w:=by
 refine wp_region_inv hm (fun L U W=>(∀ j oj,ops[j]? = some oj->L j=true->∀ e∈oj.after,Region.binds .any e=true->L e.on=true)/\∃ vs,S vs W/\vs.length<=chain.length/\
  (∀ (k i:Nat),chain[k]? = some i->(L i=true↔k<vs.length))/\(∀ (k i:Nat) (v:Value),chain[k]? = some i->vs[k]? = some v->U i=v)/\(∀ i,L i=true->i∉chain->U i=c i)) hsz' ?_ ?_ ?_
 ·intro U
  exact⟨fun j oj _ h=>absurd h (by simp),[],hS,Nat.zero_le _,fun k i _=>by simp,fun k i v _ hv=>by simp at hv,fun i h=>absurd h (by simp)⟩
 ·rintro i o F L U W ho ⟨hcl,vs,hSW,hlen,hin,hval,hfr⟩ hLi hat hoff hpre
  have hio:i<ops.size:=by
   exact Y142
  have hguard:o.guard=none:=by
   have h1:=Array.all_eq_true_iff_forall_mem.1 hng o (Array.mem_of_getElem? ho)
   simpa using h1
  have hwant:Region.wanted o (yielded ops F.tmps)=true:=wanted_none hguard
  refine⟨fun _=>?_,fun h=>(by rw [hwant] at h;cases h)⟩
  have hdeps:∀ e∈o.after,Region.binds .any e=true->(e.on∉chain->U e.on=c e.on)/\(∀ k:Nat,chain[k]? = some e.on->vs[k]? = some (U e.on)):=by
   intro e he hbe
   have hle:=hpre e he hbe
   refine⟨fun hn=>hfr _ hle hn,fun k hk=>?_⟩
   have hk':=(hin k _ hk).1 hle
   have h2:=List.getElem?_eq_getElem hk'
   rw [h2,hval k _ _ hk h2]
  have hcl':∀ j oj,ops[j]? = some oj->setL L i j=true->∀ e∈oj.after,Region.binds .any e=true->setL L i e.on=true:=by
   intro j oj hoj hl e he hbe
   have up:∀ k,L k=true->setL L i k=true:=by
    intro k hk
    unfold setL
    split
    ·rfl
    ·exact hk
   by_cases hji:j=i
   ·subst hji
    rw [ho] at hoj
    injection hoj with hoj
    subst hoj
    exact up _ (hpre e he hbe)
   ·unfold setL at hl
    rw [if_neg hji] at hl
    exact up _ (hcl j oj hoj hl e he hbe)
  by_cases hmem:i∈chain
  ·obtain⟨k,hk⟩:=List.getElem?_of_mem hmem
   have hge:¬ k<vs.length:=fun h=>by
    have:=(hin k i hk).2 h
    rw [hLi] at this
    cases this
   have hke:vs.length=k:=by
    rcases Nat.eq_zero_or_pos k with h0|h0
    ·omega
    ·have hkl : k < chain.length := by
      exact Y118
     obtain⟨p,hp⟩:∃ p,chain[k-1]? = some p:=⟨_,List.getElem?_eq_getElem (by omega)⟩
     have hk1:chain[k-1+1]? = some i:=by rw [Nat.sub_add_cancel h0];exact hk
     obtain⟨oj,hoj,e,he,hbe,hon⟩:=hasEdge_spec (chainOk_edge hch (k-1) p i hp hk1).1
     rw [ho] at hoj
     injection hoj with hoj
     subst hoj
     have:=hpre e he hbe
     rw [hon] at this
     have:=(hin (k-1) p hp).1 this
     omega
   have hst:=hlink k i o F U vs W hk ho hSW hke hat hoff hdeps
   refine Oper.wp_mono ?_ hst
   rintro a' W' ⟨v,ha',hS'⟩
   have hkl:k<chain.length:=by
    exact Y118
   have hone:∀ k' i',chain[k']? = some i'->i'=i->k'=k:=by
    intro k' i' hk' e
    subst e
    rcases Nat.lt_trichotomy k' k with h|h|h
    ·have:=chainOk_inc hch k' k _ _ h hk' hk;omega
    ·exact h
    ·have:=chainOk_inc hch k k' _ _ h hk hk';omega
   refine⟨v,ha',hcl',vs++[v],hS',by simp;omega,?_,?_,?_⟩
   ·intro k' i' hk'
    unfold setL
    by_cases hi':i'=i
    ·rw [if_pos hi']
     have:=hone k' i' hk' hi'
     simp;omega
    ·rw [if_neg hi',hin k' i' hk']
     have:k'≠k:=fun e=>hi' (by subst e;rw [hk] at hk';injection hk' with hk';exact hk'.symm)
     simp;omega
   ·intro k' i' v' hk' hv'
    unfold updU
    by_cases hi':i'=i
    ·rw [if_pos hi']
     have:=hone k' i' hk' hi'
     subst this
     rw [List.getElem?_append_right (by omega)] at hv'
     simp [hke] at hv'
     exact hv'
    ·rw [if_neg hi']
     have hne:k'≠k:=fun e=>hi' (by subst e;rw [hk] at hk';injection hk' with hk';exact hk'.symm)
     have hlt:k'<(vs++[v]).length:=by
      rcases Nat.lt_or_ge k' (vs++[v]).length with h|h
      ·exact h
      ·rw [List.getElem?_eq_none h] at hv';cases hv'
     simp at hlt
     rw [List.getElem?_append_left (by omega)] at hv'
     exact hval k' i' v' hk' hv'
   ·intro j hj hn
    unfold setL at hj
    unfold updU
    by_cases hji:j=i
    ·subst hji;exact absurd hmem hn
    ·rw [if_neg hji] at hj ⊢
     exact hfr j hj hn
  ·have hlim : ∀ k s, chain[k]? = some s -> early s i = true -> vs.length <= k := by
    intro k s hk he
    rcases Nat.lt_or_ge k vs.length with h|h
    ·have hls:=(hin k s hk).2 h
     have:=early_done hearly (l:=L) hcl (List.mem_of_getElem? hk) hls i hio he
     rw [hLi] at this
     cases this
    ·exact h
   have hst:=hfree i o F U vs W ho hmem hSW hlen hlim hat hoff hdeps
   refine Oper.wp_mono ?_ hst
   rintro a' W' ⟨ha',rfl⟩
   refine⟨c i,ha',hcl',vs,hSW,hlen,?_,?_,?_⟩
   ·intro k i' hk
    unfold setL
    have:i'≠i:=fun e=>hmem (e▸List.mem_of_getElem? hk)
    rw [if_neg this]
    exact hin k i' hk
   ·intro k i' v hk hv
    unfold updU
    have:i'≠i:=fun e=>hmem (e▸List.mem_of_getElem? hk)
    rw [if_neg this]
    exact hval k i' v hk hv
   ·intro j hj hn
    unfold setL at hj
    unfold updU
    by_cases hji:j=i
    ·rw [if_pos hji,hji]
    ·rw [if_neg hji] at hj ⊢
     exact hfr j hj hn
 ·rintro U L W ⟨hcl,vs,hSW,hlen,hin,hval,hfr⟩ hall
  have hl:vs.length=chain.length:=by
   rcases Nat.lt_or_ge vs.length chain.length with h|h
   ·have h2:=List.getElem?_eq_getElem h
    have:=(hin _ _ h2).1 (hall _ (chainOk_lt hch _ _ h2))
    omega
   ·omega
  refine hend U vs W hSW hl (fun i hi hn=>hfr i (hall i hi) hn) fun k i hk=>?_
  have hkl:k<vs.length:=by
   rcases Nat.lt_or_ge k chain.length with h|h
   ·omega
   ·rw [List.getElem?_eq_none h] at hk;cases hk
  have h2:=List.getElem?_eq_getElem hkl
  rw [h2,hval k i _ hk h2]
end
theorem wp_region_old {P:Program} {ops:Array Oper} {Q:Z} {id:Nat} {a:Act} {w:World} (hm:P.follows .mixedOrders=true) (V:Nat->Value->World->Prop) (G:World->Prop) (stages:List Nat) (early:Nat->Nat->Bool) (Ext:World->World->Prop) (hsz':drawOk3 ops a.tmps.size=true) (hearly:earlyOk ops stages early=true) (hG:G {w with drawn:=w.drawn+1}) (hmono:∀ i v W W',Ext W W'->V i v W->V i v W') (hstep:∀ (i:Nat) (o:Oper) (F:Act) (U:Nat->Value) (W:World),ops[i]? = some o->G W->(∀ s∈stages,early s i=true->∀ t,dstAt ops s=some t->s<ops.size->F.eval (.tmp t)=a.eval (.tmp t))->(∀ (j:Nat) (t:Tmp),j<ops.size->dstAt ops j=some t->F.eval (.tmp t)=U j)->(∀ t:Tmp,(∀ j,j<ops.size->dstAt ops j≠some t)->F.eval (.tmp t)=a.eval (.tmp t))->(∀ e∈o.after,Region.binds .any e=true->V e.on (U e.on) W)->(Region.wanted o (yielded ops F.tmps)=true->o.wp P F W (fun a' W'=>∃ v,a'=F.put o.dst v/\V i v W'/\G W'/\Ext W W') Q)/\(Region.wanted o (yielded ops F.tmps)=false->V i undef W)) (hend:∀ (U:Nat->Value) (W:World),G W->(∀ i,i<ops.size->V i (U i) W)->Q .normal (putU ops a U ops.size) W):(Code.region id ops true).wp P Q a w:=by
 refine wp_region_any hm ?_
 obtain⟨hsz,hd',hback⟩:=drawOk3_spec hsz'
 have main:∀ (fuel:Nat) (l:Array Bool) (U:Nat->Value) (W:World),l.size=ops.size->G W->(∀ i,i<ops.size->l.getD i false=true->V i (U i) W)->(∀ i o,ops[i]? = some o->l.getD i false=true->∀ e∈o.after,Region.binds .any e=true->l.getD e.on false=true)->(∀ s∈stages,∀ t,dstAt ops s=some t->s<ops.size->l.getD s false=false->U s=a.eval (.tmp t))->
  ((List.range ops.size).filter fun i=>!l.getD i false).length<=fuel->wpAny P .any ops Q fuel l (putU ops a U ops.size) W:=by
  intro fuel
  induction fuel with
  | zero=>
   intro l U W hl hGW hV hcl hNl hf
   exact Y5
  | succ fuel ih=>
   intro l U W hl hGW hV hcl hNl hf
   refine⟨fun hr=>hend U W hGW fun i hi=>hV i hi (ready_some hl (fun i o ho=>hback i o ho) hr i hi),fun i hi=>?_⟩
   obtain⟨o,ho,hln,hpre⟩:=ready_spec hi
   have hio:i<ops.size:=by
    exact Y142
   have hil:i<l.size:=by omega
   have hlf:l.getD i false=false:=by
    exact Y86
   have hb:=hback i o ho
   unfold wpOp
   rw [ho]
   have hdo:o.dst=dstAt ops i:=by unfold dstAt;rw [ho];rfl
   have fewer:((List.range ops.size).filter fun j=>!(l.setIfInBounds i true).getD j false).length<=fuel:=by
    exact Y8
   have hold:∀ j,j<ops.size->(l.setIfInBounds i true).getD j false=true->j≠i->l.getD j false=true:=by
    intro j hj hlj hji
    exact Y29
   have hnot:∀ s∈stages,early s i=true->∀ t,dstAt ops s=some t->s<ops.size->(putU ops a U ops.size).eval (.tmp t)=a.eval (.tmp t):=by
    intro s hs he t ht hss
    rw [putU_at ops.size hd' s hss t ht (hsz s hss t ht)]
    refine hNl s hs t ht hss ?_
    cases hb2:l.getD s false with
    | false=>rfl
    | true=>
     exact Y92
   have hst:=hstep i o (putU ops a U ops.size) U W ho hGW hnot (fun j t hj ht=>putU_at ops.size hd' j hj t ht (hsz j hj t ht)) (fun t ht=>putU_off ops.size t ht) (fun e he hbe=>by
    have hlt:=hb e he hbe
    exact hV e.on (by omega) (hpre e he hbe))
   have hcl':∀ j oj,ops[j]? = some oj->(l.setIfInBounds i true).getD j false=true->∀ e∈oj.after,Region.binds .any e=true->(l.setIfInBounds i true).getD e.on false=true:=by
    exact Y22
   have down:∀ s,(l.setIfInBounds i true).getD s false=false->s≠i/\l.getD s false=false:=by
    exact Y64
   by_cases hw:Region.wanted o (yielded ops (putU ops a U ops.size).tmps)=true
   ·simp only [hw,if_true]
    left
    refine Oper.wp_mono ?_ (hst.1 hw)
    rintro a' W' ⟨v,rfl,hv,hG',hx⟩
    rw [hdo,putU_put2 ops.size i hio v hd']
    refine ih _ _ _ (by simp [hl]) hG' (fun j hj hlj=>?_) hcl' (fun s hs t ht hss hf=>by unfold updU;rw [if_neg (down s hf).1];exact hNl s hs t ht hss (down s hf).2) fewer
    exact Y56
   ·have hw':Region.wanted o (yielded ops (putU ops a U ops.size).tmps)=false:=by simpa using hw
    simp only [hw',Bool.false_eq_true,if_false]
    rw [hdo,putU_put2 ops.size i hio undef hd']
    refine ih _ _ _ (by simp [hl]) hGW (fun j hj hlj=>?_) hcl' (fun s hs t ht hss hf=>by unfold updU;rw [if_neg (down s hf).1];exact hNl s hs t ht hss (down s hf).2) fewer
    exact Y61
 obtain⟨U,hU⟩:=putU_self (ops:=ops) (a:=a) ops.size hsz
 have:=main ops.size (Array.replicate ops.size false) U {w with drawn:=w.drawn+1} (by simp) hG (fun i hi h=>by simp [Array.getD,hi] at h) (fun i o ho h=>by
  have hi:i<ops.size:=by
   exact Y142
  simp [Array.getD,hi] at h) (fun s hs t ht hss _=>by rw [<-putU_at (U:=U) (a:=a) ops.size hd' s hss t ht (hsz s hss t ht),hU]) (Nat.le_trans (List.length_filter_le _ _) (by simp))
 rw [hU] at this
 exact this
end Go.Proofs.Ytaipgdhdfpemcaa
