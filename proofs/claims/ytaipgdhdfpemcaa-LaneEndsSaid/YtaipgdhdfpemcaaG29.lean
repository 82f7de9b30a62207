/- THE WALKS OF THE LANE, part 29. -/
import Derived.Test.YtaipgdhdfpemcaaG21
import Derived.Test.YtaipgdhdfpemcaaG28
namespace Go.Proofs.Ytaipgdhdfpemcaa
set_option linter.all false
open Go.RowKit
set_option maxRecDepth 100000
set_option maxHeartbeats 4000000
def endR:Int×Int×Int->List OpC->Int×Int×Int
 | x,[]=>x
 | _,o::l=>endR (o.n,o.epoch,o.site) l
def rowZ (x:Int×Int×Int) (l:List OpC):Bool:=rowFrom x.1 x.2.1 x.2.2 l
section
variable {E N st:Int} {l:List OpC} {k:Nat} {o:OpC}
theorem rowF_app:∀ (a:List OpC) (x:Int×Int×Int) (b:List OpC),rowZ x (a++b)=(rowZ x a&&rowZ (endR x a) b)
 | [],x,b=>by simp [rowZ,endR,rowFrom]
 | o::a,x,b=>by
  have:=rowF_app a (o.n,o.epoch,o.site) b
  unfold rowZ at this ⊢
  simp only [List.cons_append,rowFrom,endR]
  simp only at this
  rw [this]
  cases opB o<;>cases decide (o.n=x.1+1)<;>cases stepB x.2.1 x.2.2 o<;>simp
theorem endR_snoc:∀ (a:List OpC) (x:Int×Int×Int) (o:OpC),endR x (a++[o])=(o.n,o.epoch,o.site)
 | [],_,_=>rfl
 | _::a,_,o=>endR_snoc a _ o
theorem endR_last (x:Int×Int×Int) (h:l[k]? = some o):endR x (l.take (k+1))=(o.n,o.epoch,o.site):=by
 rw [List.take_add_one,h]
 exact endR_snoc _ _ _
theorem rowF_site (h:rowZ (N,E,st) l=true):rowZ (N,E,-1) l=true:=by
 cases l with
 | nil=>rfl
 | cons o l=>
  unfold rowZ rowFrom at h ⊢
  simp only [Bool.and_eq_true] at h ⊢
  refine⟨h.1,h.2.1,?_,h.2.2.2⟩
  have:=h.2.2.1
  unfold stepB at this ⊢
  split
  ·rename_i hk
   rw [if_pos hk] at this
   exact this
  ·rename_i hk
   rw [if_neg hk] at this
   simp only [Bool.and_eq_true] at this ⊢
   exact⟨this.1,by simp⟩
end
def Row0 (l:List OpC):Prop:=rowZ (0,0,-1) l=true
def epAt (l:List OpC) (k:Nat):Int:=if k=0 then 0 else match l[k-1]? with
 | some o=>o.epoch
 | none=>0
section
variable {E st:Int} {l:List OpC} {i j k:Nat} {o p x y:OpC}
theorem Row0.nil_:Row0 []:=rfl
section
variable (h:Row0 l)
include h
theorem Row0.rows:Rows l:=by
 have:=rowFrom_rows (os:=[]) (E:=0) (st:=-1) Rows.nil_ (l:=l) h
 simpa using this
theorem Row0.take (k:Nat):Row0 (l.take k):=by
 unfold Row0 at h ⊢
 rw [<-List.take_append_drop k l,rowF_app,Bool.and_eq_true] at h
 exact h.1
theorem Row0.split (k:Nat):rowZ (endR (0,0,-1) (l.take k)) (l.drop k)=true:=by
 unfold Row0 at h
 rw [<-List.take_append_drop k l,rowF_app,Bool.and_eq_true] at h
 exact h.2
theorem Row0.at_ (ho:l[k]? = some o):o.n=k+1/\opB o=true:=h.rows k o ho
theorem Row0.len:l.length<=80:=h.rows.len
theorem Row0.step (hp:l[k]? = some p) (ho:l[k+1]? = some o):stepB p.epoch p.site o=true:=by
 have hs:=h.split (k+1)
 rw [endR_last _ hp] at hs
 obtain⟨hl,he⟩:=List.getElem?_eq_some_iff.1 ho
 rw [List.drop_eq_getElem_cons hl,he] at hs
 unfold rowZ rowFrom at hs
 simp only [Bool.and_eq_true] at hs
 exact hs.2.2.1
end
theorem stepB_le (h:stepB E st o=true):E<=o.epoch:=by
 unfold stepB at h
 split at h
 ·have:=of_decide_eq_true h;omega
 ·simp only [Bool.and_eq_true,decide_eq_true_eq] at h;omega
section
variable (h:Row0 l)
include h
theorem Row0.first (ho:l[0]? = some o):o.kind=3:=by
 cases l with
 | nil=>simp at ho
 | cons x l=>
  simp at ho
  subst ho
  unfold Row0 rowZ rowFrom at h
  simp only [Bool.and_eq_true] at h
  have h1:=h.2.2.1
  have h2:=opB_n h.1
  unfold stepB at h1
  split at h1
  ·assumption
  ·simp only [Bool.and_eq_true,decide_eq_true_eq] at h1
   omega
theorem Row0.mono:∀ (d i:Nat) (x y:OpC),l[i]? = some x->l[i+d]? = some y->x.epoch<=y.epoch:=by
 intro d
 induction d with
 | zero=>
  intro i x y hx hy
  rw [Nat.add_zero,hx] at hy
  injection hy with hy
  rw [hy]
  exact Int.le_refl _
 | succ d ih=>
  intro i x y hx hy
  obtain⟨hl,-⟩:=List.getElem?_eq_some_iff.1 hy
  obtain⟨z,hz⟩:∃ z,l[i+d]? = some z:=⟨_,List.getElem?_eq_getElem (by omega)⟩
  have h1:=ih i x z hx hz
  have h2:=stepB_le (h.step hz (by rw [<-hy];congr 1))
  omega
theorem Row0.le (hx:l[i]? = some x) (hy:l[j]? = some y) (hij:i<=j):x.epoch<=y.epoch:=
 h.mono (j-i) i x y hx (by rw [<-hy];congr 1;omega)
theorem Row0.same (hp:l[k]? = some p) (ho:l[k+1]? = some o) (hk:¬ o.kind=3):o.epoch=p.epoch/\o.site=p.site:=by
 have h1:=h.step hp ho
 unfold stepB at h1
 rw [if_neg hk] at h1
 simp only [Bool.and_eq_true,Bool.or_eq_true,decide_eq_true_eq] at h1
 have:=opB_n (h.at_ hp).2
 omega
end
theorem Row0.holder:Row0 l->∀ {k:Nat} {o:OpC},l[k]? = some o->k+1=l.length->holderC l=(o.epoch,o.site):=by
 refine snoc_ind (M:=fun l=>Row0 l->∀ {k:Nat} {o:OpC},l[k]? = some o->k+1=l.length->holderC l=(o.epoch,o.site)) ?_ ?_ l
 ·intro _ k o ho
  simp at ho
 ·intro os x ih h k o ho hk
  have hk':k=os.length:=by simp at hk;exact hk
  subst hk'
  rw [List.getElem?_append_right (Nat.le_refl _)] at ho
  simp at ho
  subst ho
  unfold holderC
  rw [List.reverse_append]
  simp only [List.reverse_cons,List.reverse_nil,List.nil_append,List.singleton_append,List.find?_cons]
  by_cases hx:x.kind=3
  ·rw [decide_eq_true hx]
  ·rw [decide_eq_false hx]
   simp only
   have h0:Row0 os:=by have:=h.take os.length;rwa [List.take_left' rfl] at this
   rcases Nat.eq_zero_or_pos os.length with hz|hz
   ·exfalso
    have:os=[]:=List.eq_nil_of_length_eq_zero hz
    subst this
    exact hx (h.first (by simp))
   ·obtain⟨p,hp⟩:∃ p,os[os.length-1]? = some p:=⟨_,List.getElem?_eq_getElem (by omega)⟩
    have hp2:(os++[x])[os.length-1]? = some p:=by rw [List.getElem?_append_left (by omega)];exact hp
    have hx2:(os++[x])[os.length-1+1]? = some x:=by
     rw [show os.length-1+1=os.length by omega,List.getElem?_append_right (Nat.le_refl _)]
     simp
    obtain⟨s1,s2⟩:=h.same hp2 hx2 hx
    have:=ih h0 hp (by omega)
    unfold holderC at this
    rw [s1,s2]
    exact this
theorem holderC_nil:holderC []=(0,0):=rfl
theorem endR_ep (h:Row0 l) (hk:k<=l.length):(endR (0,0,-1) (l.take k)).1=k/\(endR (0,0,-1) (l.take k)).2.1=epAt l k:=by
 cases k with
 | zero=>exact⟨rfl,rfl⟩
 | succ k=>
  obtain⟨o,ho⟩:∃ o,l[k]? = some o:=⟨_,List.getElem?_eq_getElem (by omega)⟩
  rw [endR_last _ ho]
  refine⟨(h.at_ ho).1,?_⟩
  unfold epAt
  rw [if_neg (by omega),show k+1-1=k by omega,ho]
theorem epAt_some (ho:l[k]? = some o):epAt l (k+1)=o.epoch:=by
 unfold epAt
 rw [if_neg (by omega),show k+1-1=k by omega,ho]
section
variable (h:Row0 l) (hk:k<=l.length)
include h hk
theorem Row0.epAt:0<=epAt l k/\epAt l k<=16/\((k:Int)=0↔epAt l k=0):=by
 cases k with
 | zero=>exact⟨Int.le_refl _,by show (0:Int)<=16;omega,by simp [Go.Proofs.Ytaipgdhdfpemcaa.epAt]⟩
 | succ k=>
  obtain⟨o,ho⟩:∃ o,l[k]? = some o:=⟨_,List.getElem?_eq_getElem (by omega)⟩
  rw [epAt_some ho]
  have:=opB_n (h.at_ ho).2
  omega
theorem Row0.piece (n:Nat):rowB k (Go.Proofs.Ytaipgdhdfpemcaa.epAt l k) ((l.drop k).take n)=true:=by
 have h1:=h.split k
 obtain⟨e1,e2⟩:=endR_ep h hk
 rcases hx:endR (0,0,-1) (l.take k) with ⟨N,E,st⟩
 rw [hx] at h1 e1 e2
 simp only at e1 e2
 subst e1 e2
 have h2:=rowF_site h1
 rw [<-List.take_append_drop n (l.drop k),rowF_app,Bool.and_eq_true] at h2
 unfold rowB rowHead
 have h3:=h.epAt hk
 have h4:=h.len
 rw [decide_eq_true (show (0:Int)<=k by omega),decide_eq_true (show (k:Int)<=80 by omega),decide_eq_true h3.1,decide_eq_true h3.2.1,decide_eq_true h3.2.2]
 simp only [Bool.true_and]
 exact h2.1
end
theorem Row0.snoc (h:Row0 l) (hb:opB o=true) (hn:o.n=l.length+1) (hs:(∃ k p,l[k]? = some p/\k+1=l.length/\stepB p.epoch p.site o=true)\/(o.kind=3/\∀ x∈l,x.epoch<o.epoch)):Row0 (l++[o]):=by
 unfold Row0
 rw [rowF_app,Bool.and_eq_true]
 refine⟨h,?_⟩
 obtain⟨e1,e2⟩:=endR_ep h (Nat.le_refl l.length)
 rw [List.take_length] at e1 e2
 unfold rowZ rowFrom
 rw [hb,e1,decide_eq_true hn]
 have hr:rowFrom o.n o.epoch o.site []=true:=rfl
 rw [hr]
 simp only [Bool.true_and,Bool.and_true]
 rcases hs with ⟨k,p,hp,hk,hs⟩|⟨hk,hs⟩
 ·have:=endR_last (0,0,-1) hp
  rw [hk,List.take_length] at this
  rw [this]
  exact hs
 ·unfold stepB
  rw [if_pos hk]
  refine decide_eq_true ?_
  rw [e2]
  rcases Nat.eq_zero_or_pos l.length with hz|hz
  ·rw [hz]
   have:=opB_n hb
   show (0:Int)<_
   omega
  ·obtain⟨p,hp⟩:∃ p,l[l.length-1]? = some p:=⟨_,List.getElem?_eq_getElem (by omega)⟩
   have:=epAt_some hp
   rw [show l.length-1+1=l.length by omega] at this
   rw [this]
   exact hs p (List.mem_of_getElem? hp)
end
def Agree (a b:List OpC):Prop:=∀ (i:Nat) (x y:OpC),a[i]? = some x->b[i]? = some y->x.epoch=y.epoch->a.take (i+1)=b.take (i+1)
section
variable {a b:List OpC} {i k n:Nat} {o x:OpC}
theorem Agree.refl (a:List OpC):Agree a a:=fun _ _ _ _ _ _=>rfl
theorem Agree.symm (h:Agree a b):Agree b a:=fun i x y hx hy e=>(h i y x hy hx e.symm).symm
theorem getElem_take_some (h:(a.take n)[i]? = some x):i<n/\a[i]? = some x:=by
 rw [List.getElem?_take] at h
 split at h
 ·exact⟨by assumption,h⟩
 ·cases h
theorem Agree.take (h:Agree a b) (n:Nat):Agree (a.take n) b:=by
 intro i x y hx hy e
 obtain⟨h1,h2⟩:=getElem_take_some hx
 rw [<-h i x y h2 hy e,List.take_take,Nat.min_eq_left (by omega)]
theorem take_of_take (h:a.take n=b.take n) (hk:k<=n):a.take k=b.take k:=by
 have:=congrArg (List.take k) h
 rwa [List.take_take,List.take_take,Nat.min_eq_left hk] at this
theorem at_of_take (h:a.take n=b.take n) (hi:i<n):a[i]? = b[i]?:=by
 have:=congrArg (fun l:List OpC=>l[i]?) h
 simpa [List.getElem?_take,hi] using this
theorem Agree.snoc (h:Agree a b) (ho:∀ (i:Nat) (x:OpC),b[i]? = some x->x.epoch=o.epoch->i<a.length):Agree (a++[o]) b:=by
 intro i x y hx hy e
 rcases Nat.lt_or_ge i a.length with hi|hi
 ·rw [List.getElem?_append_left hi] at hx
  rw [<-h i x y hx hy e,List.take_append_of_le_length (by omega)]
 ·exfalso
  rw [List.getElem?_append_right hi] at hx
  rcases Nat.eq_zero_or_pos (i-a.length) with h0|h0
  ·rw [h0] at hx
   simp at hx
   subst hx
   have:=ho i y hy e.symm
   omega
  ·rw [List.getElem?_eq_none (by simp;omega)] at hx
   cases hx
end
structure Cut (c:CmdC) (g:List OpC):Prop where
 row:Row0 g
 kind:c.kind=3
 after:∃ k:Nat,c.after=k/\k<=g.length/\c.since=epAt g k/\c.ops=g.drop k
section
variable {c:CmdC} {E N:Int} {g os:List OpC}
theorem hasL_at (h:hasL os N E=true) (hN:1<=N):∃ x,os[(N-1).toNat]? = some x/\x.epoch=E:=by
 unfold hasL at h
 simp only [Bool.or_eq_true,Bool.and_eq_true,decide_eq_true_eq] at h
 rcases h with h|⟨-,h⟩
 ·omega
 ·cases ho:os[(N-1).toNat]? with
  | none=>rw [ho] at h;cases h
  | some x=>rw [ho] at h;exact⟨x,rfl,of_decide_eq_true h⟩
section
variable (hc:Cut c g) (ha:Agree os g)
include hc ha
theorem Cut.known (hh:hasL os c.after c.since=true) (k:Nat) (hk:c.after=k):os.take (k+hadN os c.ops)=g.take (k+hadN os c.ops):=by
 obtain⟨k',e1,e2,e3,e4⟩:=hc.after
 obtain rfl:k'=k:=by omega
 rcases Nat.eq_zero_or_pos (hadN os c.ops) with h0|h0
 ·rw [h0,Nat.add_zero]
  cases k' with
  | zero=>rfl
  | succ j=>
   obtain⟨x,hx,hxe⟩:=hasL_at hh (by omega)
   obtain⟨y,hy⟩:∃ y,g[j]? = some y:=⟨_,List.getElem?_eq_getElem (by omega)⟩
   rw [e1,show ((((j+1:Nat):Int))-1).toNat=j by omega] at hx
   exact ha j x y hx hy (by rw [hxe,e3,epAt_some hy])
 ·have hle:=hadN_le os c.ops
  obtain⟨y,hy⟩:∃ y,c.ops[hadN os c.ops-1]? = some y:=⟨_,List.getElem?_eq_getElem (by omega)⟩
  have hhas:=hadN_has os c.ops _ y hy (by omega)
  have hg:g[k'+(hadN os c.ops-1)]? = some y:=by rw [<-List.getElem?_drop,<-e4];exact hy
  have hn:=(hc.row.at_ hg).1
  obtain⟨x,hx,hxe⟩:=hasL_at hhas (by omega)
  rw [show (y.n-1).toNat=k'+(hadN os c.ops-1) by omega] at hx
  have:=ha _ x y hx hg hxe
  rwa [show k'+(hadN os c.ops-1)+1=k'+hadN os c.ops by omega] at this
theorem Cut.ships:shipOs os c=os\/(shipOs os c=g/\hasL os c.after c.since=true/\hadN os c.ops<c.ops.length):=by
 unfold shipOs
 by_cases hh:hasL os c.after c.since=true
 ·rw [if_pos hh]
  cases ho:c.ops[hadN os c.ops]? with
  | none=>exact .inl rfl
  | some o=>
   dsimp only
   split
   ·exact .inl rfl
   ·refine .inr ⟨?_,hh,(List.getElem?_eq_some_iff.1 ho).1⟩
    obtain⟨k,e1,e2,e3,e4⟩:=hc.after
    have hk:=hc.known ha hh k e1
    have hg:g[k+hadN os c.ops]? = some o:=by rw [<-List.getElem?_drop,<-e4];exact ho
    have hn:=(hc.row.at_ hg).1
    rw [show (o.n-1).toNat=k+hadN os c.ops by omega,hk,e4,List.drop_drop]
    exact List.take_append_drop _ _
 ·rw [if_neg hh]
  exact .inl rfl
theorem Cut.comes (hh:hasL os c.after c.since=true) (hn:hadN os c.ops<c.ops.length):shipOs os c=g:=by
 rcases hc.ships ha with h|h
 ·unfold shipOs at h
  rw [if_pos hh] at h
  obtain⟨o,ho⟩:∃ o,c.ops[hadN os c.ops]? = some o:=⟨_,List.getElem?_eq_getElem hn⟩
  rw [ho] at h
  dsimp only at h
  obtain⟨k,e1,e2,e3,e4⟩:=hc.after
  have hk:=hc.known ha hh k e1
  have hg:g[k+hadN os c.ops]? = some o:=by rw [<-List.getElem?_drop,<-e4];exact ho
  have hon:=(hc.row.at_ hg).1
  have hsite:¬ (¬ o.kind=3/\¬ siteL os (o.n-2)=o.site):=by
   rintro ⟨h3,h4⟩
   apply h4
   obtain⟨j,hj⟩:∃ j,k+hadN os c.ops=j+1:=by
    refine⟨k+hadN os c.ops-1,?_⟩
    rcases Nat.eq_zero_or_pos (k+hadN os c.ops) with h0|h0
    ·rw [h0] at hg
     exact absurd (hc.row.first hg) h3
    ·omega
   rw [hj] at hg hk
   obtain⟨hlt,-⟩:=List.getElem?_eq_some_iff.1 hg
   obtain⟨p,hp⟩:∃ p,g[j]? = some p:=⟨_,List.getElem?_eq_getElem (by omega)⟩
   have hs:=(hc.row.same hp hg h3).2
   have hos:os[j]? = some p:=by rw [at_of_take hk (by omega)];exact hp
   unfold siteL
   rw [show (o.n-2).toNat=j by omega,hos]
   exact hs.symm
  rw [if_neg hsite] at h
  have h':os=os.take (o.n-1).toNat++c.ops.drop (hadN os c.ops):=h.symm
  unfold shipOs
  rw [if_pos hh,ho]
  dsimp only
  rw [if_neg hsite,show (o.n-1).toNat=k+hadN os c.ops by omega,hk,e4,List.drop_drop]
  exact List.take_append_drop _ _
 ·exact h.1
end
end
structure Chain (own:Int->Int) (T:Int) (l:List OpC):Prop where
 row:Row0 l
 own:∀ o∈l,o.site=own o.epoch
 top:∀ o∈l,o.epoch<=T
section
variable {T T':Int} {own own':Int->Int} {l:List OpC} {i:Nat} {x:OpC}
section
variable (h:Chain own T l)
include h
theorem Chain.more (hT:T<=T'):Chain own T' l:=⟨h.row,h.own,fun o ho=>Int.le_trans (h.top o ho) hT⟩
theorem Chain.take (k:Nat):Chain own T (l.take k):=⟨h.row.take k,fun o ho=>h.own o (List.mem_of_mem_take ho),fun o ho=>h.top o (List.mem_of_mem_take ho)⟩
theorem Chain.own_ (he:∀ e,e<=T->own' e=own e):Chain own' T l:=⟨h.row,fun o ho=>by rw [h.own o ho,he _ (h.top o ho)],h.top⟩
end
theorem mem_of (h:l[i]? = some x):x∈l:=List.mem_of_getElem? h
theorem Chain.holder (h:Chain own T l):holderC l=(0,0)\/∃ e,1<=e/\e<=T/\holderC l=(e,own e):=by
 rcases Nat.eq_zero_or_pos l.length with h0|h0
 ·left
  have:l=[]:=List.eq_nil_of_length_eq_zero h0
  rw [this]
  rfl
 ·right
  obtain⟨o,ho⟩:∃ o,l[l.length-1]? = some o:=⟨_,List.getElem?_eq_getElem (by omega)⟩
  have:=opB_n (h.row.at_ ho).2
  exact⟨o.epoch,by omega,h.top _ (mem_of ho),by rw [h.row.holder ho (by omega),h.own _ (mem_of ho)]⟩
end
structure Ends (A B:List OpC) (e s:Int):Prop where
 row:Row0 A
 pos:1<=A.length
 e1:1<=e/\e<=16
 s2:0<=s/\s<2
 agree:Agree B A
 rowB:Row0 B
 below:∀ o∈B,o.epoch<e
 hold:∀ (i:Nat) (x:OpC),A[i]? = some x->x.epoch<=e/\(x.epoch=e->i+1=A.length/\x.site=s)
 last:∃ x,A[A.length-1]? = some x/\x.epoch=e
def Now (A B:List OpC) (b:List OpC):Prop:=b=B\/∃ p,p<=A.length/\b=A.take p
def Knows (A b:List OpC) (k:Nat):Prop:=k<=b.length/\b.take k=A.take k
def offE (A:List OpC) (e s:Int) (k:Nat):MailC:=⟨9,0,0,0,0,false,[],⟨#[]⟩,[],e,s,k,epAt A k,0,0,[],(A.drop k).take 8⟩
def toE (A:List OpC) (k:Nat):Nat:=min (k+8) A.length
section
variable {A B b:List OpC} {e s:Int}
section
variable {E:Int} {cs:List OpC} {i k n:Nat} {o x:OpC}
theorem Ends.now (h:Ends A B e s) (hb:Now A B b):Row0 b/\Agree b A:=by
 rcases hb with rfl|⟨p,hp,rfl⟩
 ·exact⟨h.rowB,h.agree⟩
 ·exact⟨h.row.take p,(Agree.refl A).take p⟩
theorem knows_zero:Knows A b 0:=⟨Nat.zero_le _,rfl⟩
theorem hasB_some (hx:cs[k]? = some x) (hn:x.n=k+1):hasB cs ((k:Int)+1) E=decide (x.epoch=E):=by
 obtain⟨hl,-⟩:=List.getElem?_eq_some_iff.1 hx
 unfold hasB
 rw [decide_eq_false (show ¬ (k:Int)+1=0 by omega),decide_eq_true (show 1<=(k:Int)+1 by omega),decide_eq_true (show (k:Int)+1<=cs.length by omega),show ((k:Int)+1-1).toNat=k by omega,hx]
 simp [hn]
theorem hasB_none (hk:cs.length<=k):hasB cs ((k:Int)+1) E=false:=by
 unfold hasB
 rw [decide_eq_false (show ¬ (k:Int)+1=0 by omega),decide_eq_false (show ¬ (k:Int)+1<=cs.length by omega)]
 simp
theorem Ends.has (h:Ends A B e s) (hb:Now A B b) (hk:k<=A.length):hasB b k (epAt A k)=true↔Knows A b k:=by
 obtain⟨hr,ha⟩:=h.now hb
 cases k with
 | zero=>exact⟨fun _=>knows_zero,fun _=>by rfl⟩
 | succ k=>
  obtain⟨y,hy⟩:∃ y,A[k]? = some y:=⟨_,List.getElem?_eq_getElem (by omega)⟩
  rw [epAt_some hy,show ((k+1:Nat):Int)=(k:Int)+1 by omega]
  rcases Nat.lt_or_ge k b.length with hl|hl
  ·obtain⟨x,hx⟩:∃ x,b[k]? = some x:=⟨_,List.getElem?_eq_getElem hl⟩
   rw [hasB_some hx (hr.at_ hx).1]
   constructor
   ·intro he
    exact⟨hl,ha k x y hx hy (of_decide_eq_true he)⟩
   ·rintro ⟨_,he⟩
    have:=at_of_take he (Nat.lt_succ_self k)
    rw [hx,hy] at this
    injection this with this
    rw [this]
    exact decide_eq_true rfl
  ·rw [hasB_none hl]
   constructor
   ·intro hf;cases hf
   ·rintro ⟨hf,_⟩;omega
theorem Ends.len (h:Ends A B e s):A.length<=80:=h.row.len
theorem drop_take_at (ho:((A.drop k).take n)[i]? = some o):i<n/\A[k+i]? = some o:=by
 obtain⟨h1,h2⟩:=getElem_take_some ho
 rw [List.getElem?_drop] at h2
 exact⟨h1,h2⟩
theorem off_len (hk:k<=A.length):k+((A.drop k).take 8).length=toE A k:=by
 rw [List.length_take,List.length_drop]
 unfold toE
 omega
section
variable (h:Ends A B e s)
include h
theorem Ends.all_ (hb:Now A B b) (hk:k<=A.length) (hkn:Knows A b k):(((A.drop k).take 8).all fun o=>hasB b o.n o.epoch)=true↔Knows A b (toE A k):=by
 have hlen:=off_len hk
 rw [List.all_eq_true]
 constructor
 ·intro hall
  rcases Nat.eq_zero_or_pos ((A.drop k).take 8).length with h0|h0
  ·rw [<-hlen,h0,Nat.add_zero];exact hkn
  ·obtain⟨o,ho⟩:∃ o,((A.drop k).take 8)[((A.drop k).take 8).length-1]? = some o:=⟨_,List.getElem?_eq_getElem (by omega)⟩
   have h1:=hall o (List.mem_of_getElem? ho)
   obtain⟨_,h2⟩:=drop_take_at ho
   have hn:=(h.row.at_ h2).1
   have hle:=(List.getElem?_eq_some_iff.1 h2).1
   have:=(h.has hb (k:=k+(((A.drop k).take 8).length-1)+1) (by omega)).1 (by
    rw [epAt_some h2,<-h1,hn]
    rfl)
   rwa [show k+(((A.drop k).take 8).length-1)+1=toE A k by omega] at this
 ·intro hq o ho
  obtain⟨i,hi⟩:=List.getElem?_of_mem ho
  obtain⟨_,h2⟩:=drop_take_at hi
  have hn:=(h.row.at_ h2).1
  have hlt:=(List.getElem?_eq_some_iff.1 hi).1
  have hle:=(List.getElem?_eq_some_iff.1 h2).1
  have:=(h.has hb (k:=k+i+1) (by omega)).2 ⟨by have:=hq.1;omega,take_of_take hq.2 (by omega)⟩
  rw [epAt_some h2] at this
  rw [hn]
  exact this
theorem Ends.holder (hb:Now A B b):¬ (e=(holderC b).1/\s≠(holderC b).2):=by
 rintro ⟨h1,h2⟩
 obtain⟨hr,-⟩:=h.now hb
 rcases Nat.eq_zero_or_pos b.length with h0|h0
 ·rw [List.eq_nil_of_length_eq_zero h0,holderC_nil] at h1
  have:=h.e1
  simp at h1
  omega
 ·obtain⟨o,ho⟩:∃ o,b[b.length-1]? = some o:=⟨_,List.getElem?_eq_getElem (by omega)⟩
  rw [hr.holder ho (by omega)] at h1 h2
  simp only at h1 h2
  rcases hb with rfl|⟨p,hp,rfl⟩
  ·have:=h.below o (mem_of ho)
   omega
  ·obtain⟨_,h3⟩:=getElem_take_some ho
   exact h2 ((h.hold _ _ h3).2 h1.symm).2.symm
section
variable (hk:k<=A.length)
include hk
theorem Ends.ep_le:epAt A k<=e:=by
 cases k with
 | zero=>have:=h.e1;show (0:Int)<=e;omega
 | succ k=>
  obtain⟨y,hy⟩:∃ y,A[k]? = some y:=⟨_,List.getElem?_eq_getElem (by omega)⟩
  rw [epAt_some hy]
  exact (h.hold _ _ hy).1
theorem Ends.place:placeB k (epAt A k)=true:=by
 have h1:=h.row.epAt hk
 have h2:=h.len
 unfold placeB
 rw [decide_eq_true (show (0:Int)<=k by omega),decide_eq_true (show (k:Int)<=80 by omega),decide_eq_true h1.1,decide_eq_true h1.2.1]
 have:((k:Int)==0)=(epAt A k==0):=by
  rw [Bool.eq_iff_iff]
  simp only [beq_iff_eq]
  exact h1.2.2
 rw [this]
 simp
theorem Ends.off_right:(offE A e s k).right9=true:=by
 have hp:=h.place hk
 have hs:=h.s2
 have he:=h.e1
 unfold MailC.right9 offE pre1 chk8 shipB
 simp only
 rw [hp,h.row.piece hk 8,decide_eq_true hs.1,decide_eq_true (show s<=1 by omega),decide_eq_true (show 0<=e by omega),decide_eq_true he.2,decide_eq_true he.1,decide_eq_true (h.ep_le hk),decide_eq_true (show ((A.drop k).take 8).length<=8 by rw [List.length_take];omega)]
 have hall:(((A.drop k).take 8).all fun o=>decide (o.epoch<=e))=true:=by
  exact Y109
 rw [hall]
 rfl
theorem Ends.off_cmd:cmdB (propC (offE A e s k))=true:=by
 have hs:=h.s2
 have he:=h.e1
 unfold cmdB
 rw [if_neg (show ¬ (propC (offE A e s k)).kind=0 by show ¬ (3:Int)=0;decide),if_neg (show ¬ (propC (offE A e s k)).kind=1 by show ¬ (3:Int)=1;decide),if_neg (show ¬ (propC (offE A e s k)).kind=2 by show ¬ (3:Int)=2;decide),if_pos (show (propC (offE A e s k)).kind=3 from rfl)]
 unfold propC offE reignB
 simp only
 rw [h.row.piece hk 8,decide_eq_true hs.1,decide_eq_true hs.2,decide_eq_true he.1,decide_eq_true he.2,decide_eq_true (h.ep_le hk),decide_eq_true (show ((A.drop k).take 8).length<=8 by rw [List.length_take];omega)]
 have:((A.drop k).take 8).all (fun o=>decide (o.epoch<=e))=true:=by
  exact Y109
 simp [noneB,blankB,bareB,opZ,this]
 rfl
end
end
end
end
end Go.Proofs.Ytaipgdhdfpemcaa
