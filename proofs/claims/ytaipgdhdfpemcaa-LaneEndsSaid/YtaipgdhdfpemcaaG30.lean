/- THE WALKS OF THE LANE, part 30. -/
import Derived.Test.YtaipgdhdfpemcaaG29
namespace Go.Proofs.Ytaipgdhdfpemcaa
set_option linter.all false
open Go.RowKit
set_option maxRecDepth 100000
set_option maxHeartbeats 4000000
structure Tn where
 L:Nat->List OpC
 f:Nat->Int
 T:Int
 sent:List (CmdC×Nat)
def Tn.set (t:Tn) (s:Nat) (x:List OpC×Int):Tn:={t with L:=fun r=>if r=s then x.1 else t.L r,f:=fun r=>if r=s then x.2 else t.f r}
def In (t:Tn) (G:List (List OpC)) (l:List OpC):Prop:=(∃ s,s<2/\l=t.L s)\/l∈G
structure TwoI (own:Int->Int) (G:List (List OpC)) (t:Tn):Prop where
 T0:0<=t.T
 ch:∀ s,s<2->Chain own (t.f s) (t.L s)
 ft:∀ s,s<2->0<=t.f s/\t.f s<=t.T
 gch:∀ g∈G,Chain own t.T g
 len:G.length=t.sent.length
 snt:∀ (k:Nat) (c:CmdC) (dst:Nat) (g:List OpC),t.sent[k]? = some (c,dst)->G[k]? = some g->Cut c g/\dst<2/\1<=c.epoch/\c.epoch<=t.T/\own c.epoch=1-(dst:Int)/\(∀ o∈g,o.epoch<=c.epoch)
 agree:∀ a b,In t G a->In t G b->Agree a b
 lead:∀ s,s<2->holderC (t.L s)=(t.f s,(s:Int))->1<=t.f s->∀ g,In t G g->∀ (i:Nat) (x:OpC),g[i]? = some x->x.epoch=t.f s->i<(t.L s).length
section
variable {r s:Nat}
theorem Tn.set_L (t:Tn) (s:Nat) (x:List OpC×Int):(t.set s x).L s=x.1:=if_pos rfl
theorem Tn.set_f (t:Tn) (s:Nat) (x:List OpC×Int):(t.set s x).f s=x.2:=if_pos rfl
section
variable (t:Tn) (h:r≠s) (x:List OpC×Int)
include t h x
theorem Tn.set_L':(t.set s x).L r=t.L r:=if_neg h
theorem Tn.set_f':(t.set s x).f r=t.f r:=if_neg h
end
theorem Tn.set_self (t:Tn) (s:Nat):t.set s (t.L s,t.f s)=t:=by
 unfold Tn.set
 have h1:(fun r=>if r=s then t.L s else t.L r)=t.L:=by funext r;split<;>simp_all
 have h2:(fun r=>if r=s then t.f s else t.f r)=t.f:=by funext r;split<;>simp_all
 simp only [h1,h2]
theorem TwoI.start:TwoI (fun _=>0) [] ⟨fun _=>[],fun _=>0,0,[]⟩:=by
 refine⟨Int.le_refl _,fun s _=>⟨Row0.nil_,fun o ho=>absurd ho (by simp),fun o ho=>absurd ho (by simp)⟩,fun s _=>⟨Int.le_refl _,Int.le_refl _⟩,fun g hg=>absurd hg (by simp),rfl,fun k c dst g h=>absurd h (by simp),?_,?_⟩
 ·rintro a b (⟨s,_,rfl⟩|h) (⟨r,_,rfl⟩|h')
  ·exact Agree.refl _
  ·simp at h'
  ·simp at h
  ·simp at h
 ·intro s _ _ h
  have h:(1:Int)<=0:=h
  omega
end
section
variable {own:Int->Int} {G:List (List OpC)} {t:Tn}
section
variable {c:CmdC} {F:Int} {l:List OpC} {k n r s:Nat}
section
variable (h:TwoI own G t)
include h
theorem TwoI.inG (hl:In t G l):Chain own t.T l:=by
 rcases hl with ⟨s,hs,rfl⟩|hl
 ·exact (h.ch s hs).more (h.ft s hs).2
 ·exact h.gch l hl
theorem TwoI.set (hs:s<2) (hc:Chain own F l) (hF:0<=F/\F<=t.T) (ha:∀ b,In t G b->Agree l b) (hl:holderC l=(F,(s:Int))->1<=F->(∀ (i:Nat) (x:OpC),l[i]? = some x->x.epoch=F->i<l.length)/\∀ g,In t G g->∀ (i:Nat) (x:OpC),g[i]? = some x->x.epoch=F->i<l.length) (ho:∀ r,r<2->r≠s->holderC (t.L r)=(t.f r,(r:Int))->1<=t.f r->∀ (i:Nat) (x:OpC),l[i]? = some x->x.epoch=t.f r->i<(t.L r).length):TwoI own G (t.set s (l,F)):=by
 have hin:∀ b,In (t.set s (l,F)) G b->b=l\/In t G b:=by
  rintro b (⟨r,hr,rfl⟩|hb)
  ·by_cases e:r=s
   ·left;subst e;exact Tn.set_L _ _ _
   ·right;exact .inl ⟨r,hr,Tn.set_L' _ e _⟩
  ·exact .inr (.inr hb)
 refine⟨h.T0,fun r hr=>?_,fun r hr=>?_,h.gch,h.len,h.snt,fun a b hA hB=>?_,fun r hr=>?_⟩
 ·by_cases e:r=s
  ·subst e;rw [Tn.set_L,Tn.set_f];exact hc
  ·rw [Tn.set_L' _ e,Tn.set_f' _ e];exact h.ch r hr
 ·by_cases e:r=s
  ·subst e;rw [Tn.set_f];exact hF
  ·rw [Tn.set_f' _ e];exact h.ft r hr
 ·rcases hin a hA with rfl|hA'<;>rcases hin b hB with rfl|hB'
  ·exact Agree.refl _
  ·exact ha b hB'
  ·exact (ha a hA').symm
  ·exact h.agree a b hA' hB'
 ·by_cases e:r=s
  ·subst e
   rw [Tn.set_L,Tn.set_f]
   intro hh h1 g hg i x hx hxe
   obtain⟨l1,l2⟩:=hl hh h1
   rcases hin g hg with rfl|hg'
   ·exact l1 i x hx hxe
   ·exact l2 g hg' i x hx hxe
  ·rw [Tn.set_L' _ e,Tn.set_f' _ e]
   intro hh h1 g hg i x hx hxe
   rcases hin g hg with rfl|hg'
   ·exact ho r hr e hh h1 i x hx hxe
   ·exact h.lead r hr hh h1 g hg' i x hx hxe
theorem TwoI.same_ (s:Nat):TwoI own G (t.set s (t.L s,t.f s)):=by rw [Tn.set_self];exact h
theorem TwoI.does (hs:s<2) (hk:c.kind=1) (he:c.epoch=t.f s) (hsite:c.site=s):TwoI own G (t.set s (stepC (t.L s) (t.f s) c)):=by
 unfold stepC
 by_cases hc:cmdB c=false
 ·rw [if_pos hc];exact h.same_ s
 rw [if_neg hc,if_pos hk]
 have hc:cmdB c=true:=by simpa using hc
 by_cases hd:¬ doesB (t.L s) (t.f s) c=true
 ·rw [if_neg hd];exact h.same_ s
 have hd:=Classical.not_not.1 hd
 rw [if_pos hd]
 unfold doesB at hd
 simp only [Bool.and_eq_true,decide_eq_true_eq] at hd
 have hhold:=hd.2.1
 have hl:(t.L s).length<64:=hd.2.2.2.2.2.2
 have hb:=newOp_do hc hk hl
 have hk3:=(cmdB_do hc hk).2
 have hbn:=opB_n hb
 have he1:1<=t.f s:=by have:1<=c.epoch:=hbn.2.2.2.2.1;omega
 have hne:(t.L s).length≠0:=by
  intro h0
  rw [List.eq_nil_of_length_eq_zero h0,holderC_nil,he] at hhold
  injection hhold with e1 _
  omega
 obtain⟨p,hp⟩:∃ p,(t.L s)[(t.L s).length-1]? = some p:=⟨_,List.getElem?_eq_getElem (by omega)⟩
 have hph:=(h.ch s hs).row.holder hp (by omega)
 rw [hhold] at hph
 injection hph with pe ps
 have hpo:=(h.ch s hs).own p (mem_of hp)
 have hrow:Row0 (t.L s++[newOp (t.L s) c.op c.epoch c.site]):=by
  refine (h.ch s hs).row.snoc hb rfl (.inl ⟨_,p,hp,by omega,?_⟩)
  unfold stepB
  rw [if_neg (show ¬ (newOp (t.L s) c.op c.epoch c.site).kind=3 from hk3)]
  rw [show (newOp (t.L s) c.op c.epoch c.site).epoch=c.epoch from rfl,show (newOp (t.L s) c.op c.epoch c.site).site=c.site from rfl,pe,ps]
  simp
 have hlead:=h.lead s hs (by rw [hhold,he,hsite]) he1
 refine h.set hs ⟨hrow,fun o ho=>?_,fun o ho=>?_⟩ (h.ft s hs) (fun b hb'=>?_) (fun _ _=>⟨fun i x hx _=>(List.getElem?_eq_some_iff.1 hx).1,fun g hg i x hx hxe=>?_⟩) (fun r hr hrs hh h1 i x hx hxe=>?_)
 ·rcases List.mem_append.1 ho with ho|ho
  ·exact (h.ch s hs).own o ho
  ·simp at ho
   subst ho
   show c.site=own c.epoch
   rw [pe,ps];exact hpo
 ·rcases List.mem_append.1 ho with ho|ho
  ·exact (h.ch s hs).top o ho
  ·simp at ho
   subst ho
   show c.epoch<=_
   omega
 ·exact (h.agree _ b (.inl ⟨s,hs,rfl⟩) hb').snoc fun i x hx hxe=>hlead b hb' i x hx (by rw [hxe];exact he)
 ·have:=hlead g hg i x hx hxe
  simp
  omega
 ·rcases Nat.lt_or_ge i (t.L s).length with hi|hi
  ·rw [List.getElem?_append_left hi] at hx
   exact h.lead r hr hh h1 _ (.inl ⟨s,hs,rfl⟩) i x hx hxe
  ·exfalso
   rw [List.getElem?_append_right hi] at hx
   rcases Nat.eq_zero_or_pos (i-(t.L s).length) with h0|h0
   ·rw [h0] at hx
    simp at hx
    subst hx
    have hxe:c.epoch=t.f r:=hxe
    rcases (h.ch r hr).holder with hz|⟨e,_,_,hz⟩
    ·rw [hh] at hz
     injection hz with z1 _
     omega
    ·rw [hh] at hz
     injection hz with z1 z2
     have:(r:Int)=c.site:=by rw [z2,<-z1,<-hxe,pe,<-hpo,ps]
     omega
   ·rw [List.getElem?_eq_none (by simp;omega)] at hx
    cases hx
theorem TwoI.comes (hk:t.sent[k]? = some (c,r)):TwoI own G (t.set r (stepC (t.L r) (t.f r) c)):=by
 obtain⟨g,hg⟩:∃ g,G[k]? = some g:=⟨_,List.getElem?_eq_getElem (by rw [h.len];exact (List.getElem?_eq_some_iff.1 hk).1)⟩
 obtain⟨hcut,hr,he1,heT,howc,htop⟩:=h.snt k c r g hk hg
 have hgin:In t G g:=.inr (List.mem_of_getElem? hg)
 unfold stepC
 by_cases hc:cmdB c=false
 ·rw [if_pos hc];exact h.same_ r
 have k3:=hcut.kind
 rw [if_neg hc,if_neg (by omega),if_pos k3]
 by_cases hs:¬ shipsB (t.L r) (t.f r) c=true
 ·rw [if_neg hs];exact h.same_ r
 have hs:=Classical.not_not.1 hs
 rw [if_pos hs]
 have hge:t.f r<=c.epoch:=by
  unfold shipsB at hs
  simp only [Bool.not_eq_true',Bool.or_eq_false_iff,decide_eq_false_iff_not] at hs
  omega
 have hnew:∃ l,shipOs (t.L r) c=l/\In t G l/\Chain own c.epoch l:=by
  rcases hcut.ships (h.agree _ _ (.inl ⟨r,hr,rfl⟩) hgin) with e|⟨e,_⟩
  ·exact⟨_,e,.inl ⟨r,hr,rfl⟩,(h.ch r hr).more hge⟩
  ·exact⟨_,e,hgin,⟨(h.inG hgin).row,(h.inG hgin).own,htop⟩⟩
 obtain⟨l,e,hin,hch⟩:=hnew
 rw [e]
 refine h.set hr hch ⟨by omega,heT⟩ (fun b hb=>h.agree l b hin hb) (fun hh _=>?_) (fun s hs' _ hh h1 i x hx hxe=>h.lead s hs' hh h1 l hin i x hx hxe)
 exfalso
 rcases hch.holder with hz|⟨e',_,_,hz⟩
 ·rw [hh] at hz
  injection hz with z1 _
  omega
 ·rw [hh] at hz
  injection hz with z1 z2
  rw [<-z1,howc] at z2
  omega
theorem TwoI.sends (hs:s<2) (hh:holderC (t.L s)=(t.f s,(s:Int))) (h1:1<=t.f s) (hk:k<=(t.L s).length) (e1:c.kind=3) (e2:c.epoch=t.f s) (e3:c.after=k) (e4:c.since=epAt (t.L s) k) (e5:c.ops=((t.L s).drop k).take n) :
 TwoI own (G++[(t.L s).take (k+n)]) {t with sent:=t.sent++[(c,1-s)]}:=by
 have hc:=h.ch s hs
 have hcut:Cut c ((t.L s).take (k+n)):=by
  refine⟨hc.row.take _,e1,k,e3,by rw [List.length_take];omega,?_,?_⟩
  ·rw [e4]
   unfold epAt
   split
   ·rfl
   ·rw [List.getElem?_take,if_pos (by omega)]
  ·rw [e5,List.drop_take]
   congr 1
   omega
 have hown:own (t.f s)=s:=by
  rcases hc.holder with hz|⟨e,_,_,hz⟩
  ·rw [hh] at hz
   injection hz with z1 _
   omega
  ·rw [hh] at hz
   injection hz with z1 z2
   rw [z1,z2]
 have hin:∀ b,In {t with sent:=t.sent++[(c,1-s)]} (G++[(t.L s).take (k+n)]) b->b=(t.L s).take (k+n)\/In t G b:=by
  rintro b (⟨r,hr,rfl⟩|hb)
  ·exact .inr (.inl ⟨r,hr,rfl⟩)
  ·rcases List.mem_append.1 hb with hb|hb
   ·exact .inr (.inr hb)
   ·simp at hb
    exact .inl hb
 refine⟨h.T0,h.ch,h.ft,fun g hg=>?_,by simp [h.len],fun k' c' dst g hk' hg=>?_,fun a b hA hB=>?_,fun r hr hh' h1' g hg i x hx hxe=>?_⟩
 ·rcases List.mem_append.1 hg with hg|hg
  ·exact h.gch g hg
  ·simp at hg
   subst hg
   exact (hc.take _).more (h.ft s hs).2
 ·have hk':(t.sent++[(c,1-s)])[k']? = some (c',dst):=hk'
  rcases Nat.lt_or_ge k' t.sent.length with hi|hi
  ·rw [List.getElem?_append_left hi] at hk'
   rw [List.getElem?_append_left (by rw [h.len];exact hi)] at hg
   exact h.snt k' c' dst g hk' hg
  ·rw [List.getElem?_append_right hi] at hk'
   rw [List.getElem?_append_right (by rw [h.len];exact hi)] at hg
   rcases Nat.eq_zero_or_pos (k'-t.sent.length) with h0|h0
   ·rw [h0] at hk'
    rw [h.len,h0] at hg
    simp at hk' hg
    obtain⟨rfl,rfl⟩:=hk'
    subst hg
    refine⟨hcut,by omega,by omega,by rw [e2];exact (h.ft s hs).2,?_,fun o ho=>by rw [e2];exact hc.top o (List.mem_of_mem_take ho)⟩
    rw [e2,hown]
    omega
   ·rw [List.getElem?_eq_none (by simp;omega)] at hk'
    cases hk'
 ·have hL:In t G (t.L s):=.inl ⟨s,hs,rfl⟩
  rcases hin a hA with rfl|hA'<;>rcases hin b hB with rfl|hB'
  ·exact Agree.refl _
  ·exact (h.agree _ b hL hB').take _
  ·exact ((h.agree _ a hL hA').take _).symm
  ·exact h.agree a b hA' hB'
 ·rcases hin g hg with rfl|hg'
  ·obtain⟨_,hx2⟩:=getElem_take_some hx
   exact h.lead r hr hh' h1' _ (.inl ⟨s,hs,rfl⟩) i x hx2 hxe
  ·exact h.lead r hr hh' h1' g hg' i x hx hxe
theorem TwoI.reigns (hs:s<2) (hk:c.kind=4) (he:c.epoch=t.T+1) (hsite:c.site=s) :
 TwoI (fun e=>if e=t.T+1 then (s:Int) else own e) G ({t with T:=t.T+1}.set s (stepC (t.L s) (t.f s) c)):=by
 have hown:∀ e,e<=t.T->(fun e=>if e=t.T+1 then (s:Int) else own e) e=own e:=fun e he=>if_neg (by omega)
 have h':TwoI (fun e=>if e=t.T+1 then (s:Int) else own e) G {t with T:=t.T+1}:=by
  refine⟨by show 0<=t.T+1;have:=h.T0;omega,fun r hr=>(h.ch r hr).own_ fun e he=>hown e (by have:=(h.ft r hr).2;omega),fun r hr=>⟨(h.ft r hr).1,by show t.f r<=t.T+1;have:=(h.ft r hr).2;omega⟩,fun g hg=>((h.gch g hg).own_ hown).more (by show t.T<=t.T+1;omega),h.len,fun k c dst g a b=>?_,h.agree,h.lead⟩
  obtain⟨a1,a2,a3,a4,a5,a6⟩:=h.snt k c dst g a b
  exact⟨a1,a2,a3,by show c.epoch<=t.T+1;omega,(hown _ a4).trans a5,a6⟩
 unfold stepC
 by_cases hc:cmdB c=false
 ·rw [if_pos hc];exact h'.same_ s
 have hc1:cmdB c=true:=by simpa using hc
 rw [if_neg hc,if_neg (by omega),if_neg (by omega),if_pos hk,if_neg (by have:=(h.ft s hs).2;omega)]
 by_cases hl:80<=(t.L s).length
 ·rw [if_pos hl];exact h'.same_ s
 rw [if_neg hl]
 have hb:=newOp_reign (os:=t.L s) hc1 hk (by omega)
 have htop:∀ g,In t G g->∀ x∈g,x.epoch<=t.T:=fun g hg=>(h.inG hg).top
 have hLin:In t G (t.L s):=.inl ⟨s,hs,rfl⟩
 refine h'.set hs ⟨(h.ch s hs).row.snoc hb rfl (.inr ⟨rfl,fun x hx=>?_⟩),fun o ho=>?_,fun o ho=>?_⟩ ⟨by have:=h.T0;omega,by show c.epoch<=t.T+1;omega⟩ (fun b hb'=>?_) (fun _ _=>⟨fun i x hx _=>(List.getElem?_eq_some_iff.1 hx).1,fun g hg i x hx hxe=>?_⟩) (fun r hr hrs hh h1 i x hx hxe=>?_)
 ·have:=htop _ hLin x hx
  show x.epoch<c.epoch
  omega
 ·rcases List.mem_append.1 ho with ho|ho
  ·rw [(h.ch s hs).own o ho]
   exact (hown _ (htop _ hLin o ho)).symm
  ·simp at ho
   subst ho
   show c.site=if c.epoch=t.T+1 then (s:Int) else own c.epoch
   rw [if_pos he]
   exact hsite
 ·rcases List.mem_append.1 ho with ho|ho
  ·have:=htop _ hLin o ho
   omega
  ·simp at ho
   subst ho
   exact Int.le_refl _
 ·refine (h.agree _ b hLin hb').snoc fun i x hx hxe=>?_
  have:=htop b hb' x (mem_of hx)
  have hxe:x.epoch=c.epoch:=hxe
  omega
 ·have:=htop g hg x (mem_of hx)
  omega
 ·rcases Nat.lt_or_ge i (t.L s).length with hi|hi
  ·rw [List.getElem?_append_left hi] at hx
   exact h.lead r hr hh h1 _ hLin i x hx hxe
  ·exfalso
   rw [List.getElem?_append_right hi] at hx
   rcases Nat.eq_zero_or_pos (i-(t.L s).length) with h0|h0
   ·rw [h0] at hx
    simp at hx
    subst hx
    have hxe:c.epoch=t.f r:=hxe
    have:=(h.ft r hr).2
    omega
   ·rw [List.getElem?_eq_none (by simp;omega)] at hx
    cases hx
end
end
end
section
variable {A B b:List OpC} {e s:Int}
theorem map_at {l:List OpC} {k:Nat} {x:OpC} (h:l[k]? = some x):(l.map (·.epoch)).getD k 0=x.epoch:=by
 simp [List.getD,h]
def nextE (A b:List OpC) (k:Nat):Nat:=Seam.upTo (A.map (·.epoch)) (Seam.hintN (b.map (·.epoch)) k (epAt A k)) (Seam.ep (b.map (·.epoch)) (Seam.hintN (b.map (·.epoch)) k (epAt A k)))
section
variable {ft:Int} {k:Nat}
section
variable (h:Ends A B e s) (hb:Now A B b) (hk:k<=A.length)
include h hb hk
theorem Ends.next (hn:¬ Knows A b k) :
 nextE A b k<k/\(Knows A b (nextE A b k)\/epAt A (nextE A b k)<epAt A k):=by
 obtain⟨hr,ha⟩:=h.now hb
 obtain⟨j,rfl⟩:∃ j,k=j+1:=by
  rcases Nat.eq_zero_or_pos k with h0|h0
  ·subst h0;exact absurd knows_zero hn
  ·exact⟨k-1,by omega⟩
 obtain⟨y,hy⟩:∃ y,A[j]? = some y:=⟨_,List.getElem?_eq_getElem (by omega)⟩
 unfold nextE
 rw [epAt_some hy]
 obtain⟨n',hn'⟩:∃ n',n'=Seam.hintN (b.map (·.epoch)) ((j+1:Nat):Int) y.epoch:=⟨_,rfl⟩
 rw [<-hn']
 unfold Seam.hintN at hn'
 rw [if_neg (by omega)] at hn'
 have hle:=Seam.upTo_le (b.map (·.epoch)) (((j+1:Nat):Int)-1) y.epoch
 rw [<-hn',List.length_map] at hle
 have hle2:=Seam.upTo_le (A.map (·.epoch)) n' (Seam.ep (b.map (·.epoch)) n')
 obtain⟨v,hv⟩:∃ v,v=Seam.upTo (A.map (·.epoch)) n' (Seam.ep (b.map (·.epoch)) n'):=⟨_,rfl⟩
 rw [<-hv] at hle2 ⊢
 refine⟨by omega,?_⟩
 rcases Nat.eq_zero_or_pos v with h0|h0
 ·subst h0
  exact .inl knows_zero
 obtain⟨m,rfl⟩:∃ m,n'=m+1:=⟨n'-1,by omega⟩
 obtain⟨x,hx⟩:∃ x,b[m]? = some x:=⟨_,List.getElem?_eq_getElem (by omega)⟩
 have hxe:x.epoch<=y.epoch:=by
  have:=Seam.upTo_holds (b.map (·.epoch)) (((j+1:Nat):Int)-1) y.epoch (by rw [<-hn'];omega)
  rw [<-hn',show m+1-1=m by omega,map_at hx] at this
  exact this
 have hep:Seam.ep (b.map (·.epoch)) (m+1)=x.epoch:=by
  unfold Seam.ep
  rw [if_neg (by omega),show m+1-1=m by omega,map_at hx]
 rw [hep] at hv
 obtain⟨u,rfl⟩:∃ u,v=u+1:=⟨v-1,by omega⟩
 obtain⟨z,hz⟩:∃ z,A[u]? = some z:=⟨_,List.getElem?_eq_getElem (by omega)⟩
 have hze:z.epoch<=x.epoch:=by
  have:=Seam.upTo_holds (A.map (·.epoch)) ((m+1:Nat):Int) x.epoch (by rw [<-hv];omega)
  rw [<-hv,show u+1-1=u by omega,map_at hz] at this
  exact this
 rw [epAt_some hz]
 by_cases e1:x.epoch<y.epoch
 ·exact .inr (by omega)
 have e1:x.epoch=y.epoch:=by omega
 obtain⟨p,hp⟩:∃ p,A[m]? = some p:=⟨_,List.getElem?_eq_getElem (by omega)⟩
 have hpy:=h.row.le hp hy (by omega)
 have hge:=Seam.upTo_ge (A.map (·.epoch)) ((m+1:Nat):Int) x.epoch (m+1) (Int.le_refl _) (by rw [List.length_map];omega) (fun _=>by rw [show m+1-1=m by omega,map_at hp];omega)
 rw [<-hv] at hge
 obtain rfl:u=m:=by omega
 rw [hz] at hp
 injection hp with hp
 subst hp
 by_cases e2:z.epoch=y.epoch
 ·exact .inl ⟨by omega,ha u x z hx hz (by omega)⟩
 ·exact .inr (by omega)
theorem Ends.meet_low (hf:ft<e) (wN wE:Int) (holes:List Int):meetP b ft (offE A e s k) wN wE holes=(mailZ,propC (offE A e s k),2):=by
 unfold meetP
 rw [if_pos ⟨⟨rfl,h.off_right hk⟩,h.holder hb⟩,if_neg (show ¬ (offE A e s k).epoch<ft by show ¬ e<ft;omega),if_neg (show ¬ ((offE A e s k).epoch=ft/\_) from fun x=>by have:e=ft:=x.1;omega),if_neg (show ¬ ((offE A e s k).epoch=ft/\_) from fun x=>by have:e=ft:=x.1;omega)]
theorem Ends.meet_bad (hn:¬ Knows A b k) (wN wE:Int) (holes:List Int) :
 meetP b e (offE A e s k) wN wE holes=(ansM e false (Seam.hintN (b.map (·.epoch)) k (epAt A k)) (Seam.ep (b.map (·.epoch)) (Seam.hintN (b.map (·.epoch)) k (epAt A k))) 0 0 [],cmdZ,1):=by
 have hh:hasB b (offE A e s k).atN (offE A e s k).atE=false:=by
  have:¬ hasB b k (epAt A k)=true:=fun x=>hn ((h.has hb hk).1 x)
  exact (Bool.not_eq_true _).mp this
 unfold meetP
 rw [if_pos ⟨⟨rfl,h.off_right hk⟩,h.holder hb⟩,if_neg (show ¬ (offE A e s k).epoch<e by show ¬ e<e;omega),if_pos ⟨rfl,hh⟩]
 rfl
theorem Ends.meet_prop (hkn:Knows A b k) (hq:¬ Knows A b (toE A k)) (wN wE:Int) (holes:List Int) :
 meetP b e (offE A e s k) wN wE holes=(mailZ,propC (offE A e s k),2):=by
 have hh:hasB b (offE A e s k).atN (offE A e s k).atE=true:=(h.has hb hk).2 hkn
 unfold meetP
 rw [if_pos ⟨⟨rfl,h.off_right hk⟩,h.holder hb⟩,if_neg (show ¬ (offE A e s k).epoch<e by show ¬ e<e;omega),if_neg (show ¬ (_/\_) from fun x=>by rw [hh] at x;exact absurd x.2 (by decide)),if_neg (fun x=>hq ((h.all_ hb hk hkn).1 x.2))]
end
theorem Ends.end_ (h:Ends A B e s) (hk:k<=A.length):endC k (epAt A k) ((A.drop k).take 8)=(((toE A k:Nat):Int),epAt A (toE A k)):=by
 have hlen:=off_len hk
 unfold endC
 rw [List.getLast?_eq_getElem?]
 rcases Nat.eq_zero_or_pos ((A.drop k).take 8).length with h0|h0
 ·rw [List.getElem?_eq_none (by omega),<-hlen,h0,Nat.add_zero]
 ·obtain⟨o,ho⟩:∃ o,((A.drop k).take 8)[((A.drop k).take 8).length-1]? = some o:=⟨_,List.getElem?_eq_getElem (by omega)⟩
  obtain⟨_,h2⟩:=drop_take_at ho
  have hn:=(h.row.at_ h2).1
  rw [ho]
  have e1:=epAt_some h2
  rw [show k+(((A.drop k).take 8).length-1)+1=toE A k by omega] at e1
  simp only
  rw [e1]
  refine Prod.ext ?_ rfl
  simp only
  omega
theorem toE_le (k:Nat):toE A k<=A.length:=by unfold toE;omega
end
def GoodA (A:List OpC) (e:Int) (q:Nat) (m:MailC):Prop:=∃ wN wE holes,m=ansM e true q (epAt A q) wN wE holes/\m.right10=true
section
variable {g:Bool} {E N ft:Int} {k:Nat}
theorem Ends.ans_right (h:Ends A B e s) (hp:placeB N E=true):(ansM e g N E 0 0 []).right10=true:=by
 have he:=h.e1
 unfold MailC.right10 ansM pre1 chk8
 simp only
 rw [hp,decide_eq_true (show 0<=e by omega),decide_eq_true he.2,decide_eq_true (show 0<e by omega)]
 cases g<;>rfl
section
variable (h:Ends A B e s) (hb:Now A B b)
include h hb
theorem Ends.meet_good (hk:k<=A.length) (hkn:Knows A b k) (hq:Knows A b (toE A k)) (wN wE:Int) (holes:List Int) :
 ∃ m,meetP b e (offE A e s k) wN wE holes=(m,cmdZ,1)/\GoodA A e (toE A k) m:=by
 have hh:hasB b (offE A e s k).atN (offE A e s k).atE=true:=(h.has hb hk).2 hkn
 have hend:endC (offE A e s k).atN (offE A e s k).atE (offE A e s k).ops=(((toE A k:Nat):Int),epAt A (toE A k)):=h.end_ hk
 unfold meetP
 rw [if_pos ⟨⟨rfl,h.off_right hk⟩,h.holder hb⟩,if_neg (show ¬ (offE A e s k).epoch<e by show ¬ e<e;omega),if_neg (show ¬ (_/\_) from fun x=>by rw [hh] at x;exact absurd x.2 (by decide)),if_pos ⟨rfl,(h.all_ hb hk hkn).2 hq⟩,hend]
 split
 ·rename_i hw
  refine⟨_,rfl,wN,wE,holes,rfl,?_⟩
  rw [Bool.and_eq_true] at hw
  exact hw.2
 ·exact⟨_,rfl,0,0,[],rfl,h.ans_right (h.place (toE_le k))⟩
theorem Ends.hint_place (k E:Int):placeB (Seam.hintN (b.map (·.epoch)) k E) (Seam.ep (b.map (·.epoch)) (Seam.hintN (b.map (·.epoch)) k E))=true:=by
 obtain⟨hr,-⟩:=h.now hb
 have hle:Seam.hintN (b.map (·.epoch)) k E<=b.length:=by
  unfold Seam.hintN
  split
  ·exact Nat.zero_le _
  ·have:=(Seam.upTo_le (b.map (·.epoch)) (k-1) E).2
   rwa [List.length_map] at this
 obtain⟨n,hn⟩:∃ n,n=Seam.hintN (b.map (·.epoch)) k E:=⟨_,rfl⟩
 rw [<-hn] at hle ⊢
 have hep:Seam.ep (b.map (·.epoch)) n=epAt b n:=by
  unfold Seam.ep epAt
  split
  ·rfl
  ·obtain⟨x,hx⟩:∃ x,b[n-1]? = some x:=⟨_,List.getElem?_eq_getElem (by omega)⟩
   rw [map_at hx,hx]
 rw [hep]
 have h1:=hr.epAt hle
 have h2:=hr.len
 unfold placeB
 rw [decide_eq_true (show (0:Int)<=n by omega),decide_eq_true (show (n:Int)<=80 by omega),decide_eq_true h1.1,decide_eq_true h1.2.1]
 have:((n:Int)==0)=(epAt b n==0):=by
  rw [Bool.eq_iff_iff]
  simp only [beq_iff_eq]
  exact h1.2.2
 rw [this]
 simp
theorem Ends.step (hk:k<=A.length) (hf:ft<=e) :
 ∃ b',stepC b ft (propC (offE A e s k))=(b',e)/\Now A B b'/\(b'=b\/b'=A.take (toE A k))/\(Knows A b k->¬ Knows A b (toE A k)->b'=A.take (toE A k)):=by
 obtain⟨hr,ha⟩:=h.now hb
 have hcut:Cut (propC (offE A e s k)) (A.take (toE A k)):=by
  have hle:=toE_le (A:=A) k
  have hlen:=off_len hk
  refine⟨h.row.take _,rfl,k,rfl,by rw [List.length_take];unfold toE at *;omega,?_,?_⟩
  ·show epAt A k=epAt (A.take (toE A k)) k
   unfold epAt
   split
   ·rfl
   ·rw [List.getElem?_take,if_pos (by unfold toE;omega)]
  ·show (A.drop k).take 8=(A.take (toE A k)).drop k
   rw [List.drop_take]
   rw [show toE A k-k=((A.drop k).take 8).length by omega,List.length_take]
   rcases Nat.le_total 8 (A.drop k).length with h8|h8
   ·rw [Nat.min_eq_left h8]
   ·rw [Nat.min_eq_right h8,List.take_length,List.take_of_length_le h8]
 have ha':Agree b (A.take (toE A k)):=(ha.symm.take _).symm
 have hst:stepC b ft (propC (offE A e s k))=(shipOs b (propC (offE A e s k)),e):=by
  unfold stepC
  rw [if_neg (by rw [h.off_cmd hk];decide),if_neg (show ¬ (propC (offE A e s k)).kind=1 by show ¬ (3:Int)=1;decide),if_pos (show (propC (offE A e s k)).kind=3 from rfl)]
  have:shipsB b ft (propC (offE A e s k))=true:=by
   have hho:=h.holder hb
   unfold shipsB
   rw [decide_eq_false (show ¬ (propC (offE A e s k)).epoch<ft by show ¬ e<ft;omega)]
   simp only [Bool.false_or,Bool.not_eq_true',Bool.and_eq_false_iff,decide_eq_false_iff_not,Bool.not_eq_false',decide_eq_true_eq]
   by_cases q:e=(holderC b).1
   ·right
    exact Classical.byContradiction fun hc=>hho ⟨q,hc⟩
   ·left;exact q
  rw [if_pos this]
  rfl
 have hnow:∀ b',(b'=b\/b'=A.take (toE A k))->Now A B b':=by
  rintro b' (rfl|rfl)
  ·exact hb
  ·exact .inr ⟨_,toE_le k,rfl⟩
 have hres:shipOs b (propC (offE A e s k))=b\/shipOs b (propC (offE A e s k))=A.take (toE A k):=by
  rcases hcut.ships ha' with x|x
  ·exact .inl x
  ·exact .inr x.1
 refine⟨_,hst,hnow _ hres,hres,fun hkn hq=>?_⟩
 have hh:hasL b (propC (offE A e s k)).after (propC (offE A e s k)).since=true:=by
  show hasL b k (epAt A k)=true
  cases k with
  | zero=>rfl
  | succ k=>
   obtain⟨y,hy⟩:∃ y,A[k]? = some y:=⟨_,List.getElem?_eq_getElem (by omega)⟩
   have hby:b[k]? = some y:=by rw [at_of_take hkn.2 (Nat.lt_succ_self k)];exact hy
   have hkl:=hkn.1
   rw [epAt_some hy]
   unfold hasL
   rw [show (((k+1:Nat):Int)-1).toNat=k by omega,hby,decide_eq_true (show ((k+1:Nat):Int)<=b.length by omega)]
   simp
 refine hcut.comes ha' hh ?_
 rcases Nat.lt_or_ge (hadN b (propC (offE A e s k)).ops) (propC (offE A e s k)).ops.length with x|x
 ·exact x
 ·exfalso
  have hle:=hadN_le b (propC (offE A e s k)).ops
  have hkn2:=hcut.known ha' hh k rfl
  have hlen:=off_len hk
  have hlen':(propC (offE A e s k)).ops.length=((A.drop k).take 8).length:=rfl
  have e1:k+hadN b (propC (offE A e s k)).ops=toE A k:=by omega
  rw [e1,List.take_take,Nat.min_self] at hkn2
  refine hq ⟨?_,hkn2⟩
  have:=congrArg List.length hkn2
  rw [List.length_take,List.length_take] at this
  have:=toE_le (A:=A) k
  omega
end
end
end
structure LaneE (A:List OpC) (e s:Int) (l:LaneC) (k mk:Nat):Prop where
 epoch:l.epoch=e
 site:l.site=s
 next:l.next=k
 le:k<=A.length
 mN:l.mN=mk
 mE:l.mE=epAt A mk
 mle:mk<=k
section
variable {A B b:List OpC} {e s:Int} {l:LaneC} {k mk:Nat}
section
variable {m:MailC} {j q:Nat}
theorem Knows.mono (h:Knows A b k) (hj:j<=k):Knows A b j:=⟨Nat.le_trans hj h.1,take_of_take h.2 hj⟩
theorem toE_ge (hk:k<=A.length):k<=toE A k:=by unfold toE;omega
theorem toE_end:toE A A.length=A.length:=by unfold toE;omega
theorem Ends.self (h:Ends A B e s):Now A B A:=.inr ⟨A.length,Nat.le_refl _,(List.take_length).symm⟩
theorem knows_self (hk:k<=A.length):Knows A A k:=⟨hk,rfl⟩
theorem Ends.take_bad (h:Ends A B e s) (hb:Now A B b) (hl:LaneE A e s l k 0) (hn:¬ Knows A b k) :
 LaneE A e s (takeS l (ansM e false (Seam.hintN (b.map (·.epoch)) k (epAt A k)) (Seam.ep (b.map (·.epoch)) (Seam.hintN (b.map (·.epoch)) k (epAt A k))) 0 0 []) A) (nextE A b k) 0:=by
 have hnx:=(h.next hb hl.le hn).1
 unfold takeS
 rw [if_pos ⟨rfl,h.ans_right (h.hint_place hb _ _)⟩]
 unfold rightS
 rw [if_pos (show (ansM e false _ _ 0 0 []).epoch=l.epoch from hl.epoch.symm),if_neg (show ¬ (ansM e false _ _ 0 0 []).good=true by show ¬ false=true;decide)]
 refine⟨hl.epoch,hl.site,?_,Nat.le_trans (Nat.le_of_lt hnx) hl.le,hl.mN,hl.mE,Nat.zero_le _⟩
 show min l.next (max l.mN ((nextE A b k:Nat):Int))=_
 rw [hl.next,hl.mN]
 omega
theorem further_mN (l:LaneC) (N E:Int):(l.further N E).mN=if l.mN<N then N else l.mN:=by unfold LaneC.further;split<;>simp_all
theorem further_mE (l:LaneC) (N E:Int):(l.further N E).mE=if l.mN<N then E else l.mE:=by unfold LaneC.further;split<;>simp_all
theorem further_epoch (l:LaneC) (N E:Int):(l.further N E).epoch=l.epoch:=by unfold LaneC.further;split<;>rfl
theorem further_site (l:LaneC) (N E:Int):(l.further N E).site=l.site:=by unfold LaneC.further;split<;>rfl
theorem goodS2_same (l:LaneC) (m:MailC) (os:List OpC):(goodS2 l m os).epoch=l.epoch/\(goodS2 l m os).site=l.site/\(goodS2 l m os).next=l.next/\(goodS2 l m os).mN=l.mN/\(goodS2 l m os).mE=l.mE:=by
 unfold goodS2
 split<;>exact⟨rfl,rfl,rfl,rfl,rfl⟩
theorem Ends.take_good (h:Ends A B e s) (hl:LaneE A e s l k mk) (hq1:1<=q) (hq:q<=A.length) (hm:GoodA A e q m):LaneE A e s (takeS l m A) (max k q) (max mk q):=by
 obtain⟨wN,wE,holes,rfl,hr⟩:=hm
 unfold takeS
 rw [if_pos ⟨rfl,hr⟩]
 unfold rightS
 rw [if_pos (show (ansM e true _ _ wN wE holes).epoch=l.epoch from hl.epoch.symm),if_pos (show (ansM e true _ _ wN wE holes).good=true from rfl)]
 unfold goodS
 obtain⟨a1,a2,a3,a4,a5⟩:=goodS2_same (goodS1 l (ansM e true q (epAt A q) wN wE holes) A) (ansM e true q (epAt A q) wN wE holes) A
 have hh:(decide (0<(ansM e true q (epAt A q) wN wE holes).atN)&&hasB A (ansM e true q (epAt A q) wN wE holes).atN (ansM e true q (epAt A q) wN wE holes).atE)=true:=by
  rw [Bool.and_eq_true]
  exact⟨decide_eq_true (show (0:Int)<q by omega),(h.has h.self hq).2 (knows_self hq)⟩
 have e1:goodS1 l (ansM e true q (epAt A q) wN wE holes) A={l.further q (epAt A q) with next:=max l.next q}:=by
  unfold goodS1
  rw [if_pos hh]
  rfl
 rw [e1] at a1 a2 a3 a4 a5 ⊢
 have hmN:=hl.mN
 have hle:=hl.le
 have hml:=hl.mle
 refine⟨?_,?_,?_,by omega,?_,?_,by omega⟩
 ·rw [a1];exact (further_epoch _ _ _).trans hl.epoch
 ·rw [a2];exact (further_site _ _ _).trans hl.site
 ·rw [a3]
  show max l.next (q:Int)=_
  rw [hl.next]
  omega
 ·rw [a4]
  show (l.further q (epAt A q)).mN=_
  rw [further_mN,hmN]
  split<;>omega
 ·rw [a5]
  show (l.further q (epAt A q)).mE=_
  rw [further_mE,hmN,hl.mE]
  split
  ·rw [Nat.max_eq_right (by omega)]
  ·rw [Nat.max_eq_left (by omega)]
end
def Near (A B:List OpC) (e s:Int) (n:Nat) (l:LaneC) (b:List OpC) (ft:Int):Prop:=
 ∃ k mk,LaneE A e s l k mk/\Now A B b/\
  ((ft<e/\mk=0/\2*((A.length+7) / 8)+20<=n)\/
   (ft=e/\¬ Knows A b k/\mk=0/\2*((A.length+7) / 8)+2+(epAt A k).toNat<=n)\/
   (ft=e/\Knows A b k/\¬ Knows A b (toE A k)/\2*((A.length-k+7) / 8)+1<=n)\/
   (ft=e/\Knows A b (toE A k)/\k<A.length/\2*((A.length-k+7) / 8)<=n)\/
   (ft=e/\Knows A b A.length/\k=A.length/\1<=n)\/
   (ft=e/\Knows A b A.length/\k=A.length/\mk=A.length))
section
variable {ft:Int} {own:Int->Int} {G:List (List OpC)} {n r:Nat} {t:Tn}
theorem Near.next (h:Near A B e s n l b ft):0<=l.next/\l.next<=A.length/\LaneE A e s l l.next.toNat l.mN.toNat/\Now A B b:=by
 obtain⟨k,mk,h1,h2,-⟩:=h
 have e1:=h1.next
 have e2:=h1.mN
 have e3:=h1.le
 refine⟨by omega,by omega,?_,h2⟩
 rw [show l.next.toNat=k by omega,show l.mN.toNat=mk by omega]
 exact h1
section
variable (h:Ends A B e s)
include h
theorem Ends.stand (hb:Now A B b) (hl:LaneE A e s l k mk) (h1:2*((A.length-k+7) / 8)+1<=n) (h2:Knows A b k\/(mk=0/\2*((A.length+7) / 8)+2+(epAt A k).toNat<=n)):Near A B e s n l b e:=by
 refine⟨k,mk,hl,hb,?_⟩
 have hle:=hl.le
 by_cases q1:Knows A b k
 ·by_cases q2:Knows A b (toE A k)
  ·rcases Nat.lt_or_ge k A.length with q3|q3
   ·exact .inr (.inr (.inr (.inl ⟨rfl,q2,q3,by omega⟩)))
   ·obtain rfl:k=A.length:=by omega
    exact .inr (.inr (.inr (.inr (.inl ⟨rfl,q1,rfl,by omega⟩))))
  ·exact .inr (.inr (.inl ⟨rfl,q1,q2,h1⟩))
 ·rcases h2 with h2|h2
  ·exact absurd h2 q1
  ·exact .inr (.inl ⟨rfl,q1,h2⟩)
theorem Ends.round (hn:Near A B e s (n+1) l b ft) (wN wE:Int) (holes:List Int) :
 ((meetP b ft (offE A e s l.next.toNat) wN wE holes).2.2=2/\(meetP b ft (offE A e s l.next.toNat) wN wE holes).2.1=propC (offE A e s l.next.toNat)/\Near A B e s n l (stepC b ft (propC (offE A e s l.next.toNat))).1 (stepC b ft (propC (offE A e s l.next.toNat))).2)\/
 ((meetP b ft (offE A e s l.next.toNat) wN wE holes).2.2=1/\Near A B e s n (takeS l (meetP b ft (offE A e s l.next.toNat) wN wE holes).1 A) b ft):=by
 obtain⟨k,mk,hl,hb,hc⟩:=hn
 have hle:=hl.le
 rw [show l.next.toNat=k by have:=hl.next;omega]
 have hee:=h.row.epAt hle
 have he:=h.e1
 have hpos:=h.pos
 rcases hc with ⟨c1,c2,c3⟩|⟨rfl,c2,c3,c4⟩|⟨rfl,c2,c3,c4⟩|⟨rfl,c2,c3,c4⟩|⟨rfl,c2,rfl,c4⟩|⟨rfl,c2,rfl,rfl⟩
 ·left
  rw [h.meet_low hb hle c1]
  refine⟨rfl,rfl,?_⟩
  obtain⟨b',e1,e2,-,-⟩:=h.step hb hle (Int.le_of_lt c1)
  rw [e1]
  exact h.stand e2 hl (by omega) (.inr ⟨c2,by omega⟩)
 ·right
  subst c3
  rw [h.meet_bad hb hle c2]
  refine⟨rfl,?_⟩
  obtain⟨n1,n2⟩:=h.next hb hle c2
  have hl':=h.take_bad hb hl c2
  have hv:=h.row.epAt hl'.le
  refine h.stand hb hl' (by omega) ?_
  rcases n2 with n2|n2
  ·exact .inl n2
  ·exact .inr ⟨rfl,by omega⟩
 ·left
  rw [h.meet_prop hb hle c2 c3]
  refine⟨rfl,rfl,?_⟩
  obtain⟨b',e1,e2,-,e4⟩:=h.step hb hle (Int.le_refl _)
  rw [e1]
  obtain rfl:=e4 c2 c3
  have hq:Knows A (A.take (toE A k)) (toE A k):=⟨by rw [List.length_take];have:=toE_le (A:=A) k;omega,by rw [List.take_take,Nat.min_self]⟩
  have hkl:k<A.length:=by
   rcases Nat.lt_or_ge k A.length with x|x
   ·exact x
   ·exfalso
    obtain rfl:k=A.length:=by omega
    rw [toE_end] at c3
    exact c3 c2
  exact⟨k,mk,hl,e2,.inr (.inr (.inr (.inl ⟨rfl,hq,hkl,by omega⟩)))⟩
 ·right
  obtain⟨m,e1,e2⟩:=h.meet_good hb hle (c2.mono (toE_ge hle)) c2 wN wE holes
  rw [e1]
  refine⟨rfl,?_⟩
  have hq1:1<=toE A k:=by unfold toE;omega
  have hl':=h.take_good hl hq1 (toE_le k) e2
  have hml:=hl.mle
  rw [Nat.max_eq_right (toE_ge hle),Nat.max_eq_right (Nat.le_trans hml (toE_ge hle))] at hl'
  rcases Nat.lt_or_ge (toE A k) A.length with x|x
  ·exact h.stand hb hl' (by unfold toE at *;omega) (.inl c2)
  ·have e3:toE A k=A.length:=by have:=toE_le (A:=A) k;omega
   rw [e3] at hl' c2
   exact Y101
 ·right
  obtain⟨m,e1,e2⟩:=h.meet_good hb hle c2 (by rw [toE_end];exact c2) wN wE holes
  rw [e1]
  refine⟨rfl,?_⟩
  rw [toE_end] at e2
  have hl':=h.take_good hl hpos (Nat.le_refl _) e2
  have hml:=hl.mle
  rw [Nat.max_self,Nat.max_eq_right hml] at hl'
  exact Y101
 ·right
  obtain⟨m,e1,e2⟩:=h.meet_good hb hle c2 (by rw [toE_end];exact c2) wN wE holes
  rw [e1]
  refine⟨rfl,?_⟩
  rw [toE_end] at e2
  have hl':=h.take_good hl hpos (Nat.le_refl _) e2
  rw [Nat.max_self] at hl'
  exact Y101
theorem Ends.done (hn:Near A B e s 0 l b ft):b=A/\ft=e/\LaneE A e s l A.length A.length:=by
 obtain⟨k,mk,hl,hb,hc⟩:=hn
 rcases hc with ⟨c1,c2,c3⟩|⟨rfl,c2,c3,c4⟩|⟨rfl,c2,c3,c4⟩|⟨rfl,c2,c3,c4⟩|⟨rfl,c2,rfl,c4⟩|⟨rfl,c2,rfl,rfl⟩
 ·omega
 ·omega
 ·omega
 ·omega
 ·omega
 ·refine⟨?_,rfl,hl⟩
  obtain⟨c3,c4⟩:=c2
  rw [List.take_length] at c4
  rcases hb with rfl|⟨p,hp,rfl⟩
  ·exfalso
   obtain⟨x,hx,hxe⟩:=h.last
   have hpos:=h.pos
   have:b[A.length-1]? = some x:=by
    rw [<-hx,<-c4,List.getElem?_take,if_pos (by rw [c4];omega)]
   have:=h.below x (mem_of this)
   omega
  ·rw [List.length_take] at c3
   rw [List.take_of_length_le (by omega)]
theorem Ends.start (hf:ft<e) (hl:LaneE A e s l A.length 0):Near A B e s (38+2*A.length / 8) l B ft:=
 ⟨_,_,hl,.inl rfl,.inl ⟨hf,rfl,by omega⟩⟩
theorem Ends.late (hl:LaneE A e s l A.length A.length) (hk:k<=A.length) (wN wE:Int) (holes:List Int) :
 (meetP A e (offE A e s k) wN wE holes).2.2=1/\LaneE A e s (takeS l (meetP A e (offE A e s k) wN wE holes).1 A) A.length A.length:=by
 obtain⟨m,e1,e2⟩:=h.meet_good h.self hk (knows_self hk) (knows_self (toE_le k)) wN wE holes
 rw [e1]
 refine⟨rfl,?_⟩
 have hpos:=h.pos
 have hq1:1<=toE A k:=by unfold toE;omega
 have hl':=h.take_good hl hq1 (toE_le k) e2
 rw [Nat.max_eq_left (toE_le k)] at hl'
 exact hl'
end
theorem Ends.of_ (h:TwoI own G t) {s:Nat} (hs:s<2) (hr:r<2) {e:Int} (hse:t.f s<e) (hre:t.f r<e) (he:e<=16) (hl:(t.L s).length<80) (hb:opB (newOp (t.L s) reignOp e s)=true) :
 Ends (t.L s++[newOp (t.L s) reignOp e s]) (t.L r) e s:=by
 have hcs:=h.ch s hs
 have hcr:=h.ch r hr
 have hbn:=opB_n hb
 refine⟨hcs.row.snoc hb rfl (.inr ⟨rfl,fun x hx=>?_⟩),by simp,⟨?_,he⟩,by omega,?_,hcr.row,fun o ho=>?_,fun i x hx=>?_,?_⟩
 ·have:=hcs.top x hx
  show x.epoch<e
  omega
 ·have:=(h.ft s hs).1
  omega
 ·refine ((h.agree _ _ (.inl ⟨s,hs,rfl⟩) (.inl ⟨r,hr,rfl⟩)).snoc fun i x hx hxe=>?_).symm
  exfalso
  have:=hcr.top x (mem_of hx)
  have hxe:x.epoch=e:=hxe
  omega
 ·have:=hcr.top o ho
  omega
 ·rcases Nat.lt_or_ge i (t.L s).length with hi|hi
  ·rw [List.getElem?_append_left hi] at hx
   have:=hcs.top x (mem_of hx)
   exact⟨by omega,fun hxe=>by omega⟩
  ·rw [List.getElem?_append_right hi] at hx
   rcases Nat.eq_zero_or_pos (i-(t.L s).length) with h0|h0
   ·rw [h0] at hx
    simp at hx
    subst hx
    exact⟨Int.le_refl _,fun _=>⟨by simp;omega,rfl⟩⟩
   ·rw [List.getElem?_eq_none (by simp;omega)] at hx
    cases hx
 ·refine⟨newOp (t.L s) reignOp e s,?_,rfl⟩
  rw [List.getElem?_append_right (by simp)]
  simp
end
end
end Go.Proofs.Ytaipgdhdfpemcaa
