/- THE WALKS OF THE LANE, part 8. -/
import Derived.Test.YtaipgdhdfpemcaaG7
namespace Go.Proofs.Ytaipgdhdfpemcaa
set_option linter.all false
open Go.RowKit
set_option maxRecDepth 100000
set_option maxHeartbeats 4000000
instance memDec:(s:ByteArray)->(l:List ByteArray)->Decidable (s∈l)
 | _,[]=>isFalse (by simp)
 | s,a::l=>if h:s=a then isTrue (by simp [h]) else match memDec s l with
  | isTrue h'=>isTrue (List.mem_cons_of_mem _ h')
  | isFalse h'=>isFalse (by simp [h,h'])
theorem snoc_ind {M:List OpC->Prop} (nil:M []) (snoc:∀ os o,M os->M (os++[o])) (os:List OpC):M os:=by
 have h:∀ l:List OpC,M l.reverse:=by
  intro l
  induction l with
  | nil=>exact nil
  | cons a l ih=>rw [List.reverse_cons];exact snoc _ _ ih
 have:=h os.reverse
 rwa [List.reverse_reverse] at this
def lastOp (os:List OpC) (s:ByteArray):Option OpC:=os.reverse.find? fun o=>!decide (o.kind=3)&&decide (o.name=s)
def liveC (os:List OpC) (s:ByteArray):Option Int:=match lastOp os s with
 | some o=>if o.kind=1 then some o.size else none
 | none=>none
def sizeC (os:List OpC) (s:ByteArray):Int:=(liveC os s).getD 0
def clientC (os:List OpC) (c:Int):Option OpC:=os.reverse.find? fun o=>!decide (o.kind=3)&&decide (o.client=c)
def holderC (os:List OpC):Int×Int:=match os.reverse.find? fun o=>decide (o.kind=3) with
 | some o=>(o.epoch,o.site)
 | none=>(0,0)
def usedStep (os:List OpC) (u:Int) (o:OpC):Int:=if o.kind=3 then u else u-sizeC os o.name+(if o.kind=1 then o.size else 0)
section
variable (os:List OpC) (o:OpC)
include os o
section
variable (s:ByteArray)
include s
theorem lastOp_snoc:lastOp (os++[o]) s=if (!decide (o.kind=3)&&decide (o.name=s))=true then some o else lastOp os s:=by
 unfold lastOp
 rw [List.reverse_append]
 simp only [List.reverse_cons,List.reverse_nil,List.nil_append,List.singleton_append,List.find?_cons]
 split<;>simp_all
theorem liveC_snoc:liveC (os++[o]) s=if ¬ o.kind=3/\o.name=s then (if o.kind=1 then some o.size else none) else liveC os s:=by
 unfold liveC
 rw [lastOp_snoc]
 by_cases h:¬ o.kind=3/\o.name=s
 ·rw [if_pos h,if_pos (by simp [h.1,h.2])]
 ·rw [if_neg h,if_neg (by simpa using h)]
theorem sizeC_snoc:sizeC (os++[o]) s=if ¬ o.kind=3/\o.name=s then (if o.kind=1 then o.size else 0) else sizeC os s:=by
 unfold sizeC
 rw [liveC_snoc]
 split
 ·split<;>rfl
 ·rfl
end
theorem clientC_snoc (c:Int):clientC (os++[o]) c=if ¬ o.kind=3/\o.client=c then some o else clientC os c:=by
 unfold clientC
 rw [List.reverse_append]
 simp only [List.reverse_cons,List.reverse_nil,List.nil_append,List.singleton_append,List.find?_cons]
 by_cases h:¬ o.kind=3/\o.client=c
 ·rw [if_pos h]
  simp [h.1,h.2]
 ·rw [if_neg h]
  have:(!decide (o.kind=3)&&decide (o.client=c))=false:=by simpa using h
  rw [this]
theorem holderC_snoc:holderC (os++[o])=if o.kind=3 then (o.epoch,o.site) else holderC os:=by
 unfold holderC
 rw [List.reverse_append]
 simp only [List.reverse_cons,List.reverse_nil,List.nil_append,List.singleton_append,List.find?_cons]
 by_cases h:o.kind=3
 ·simp [h]
 ·simp [h]
end
def usedF:List OpC->Int:=fun os=>(os.foldl (fun p o=>(p.1++[o],usedStep p.1 p.2 o)) (([],0):List OpC×Int)).2
theorem usedF_pre (os:List OpC):(os.foldl (fun p o=>(p.1++[o],usedStep p.1 p.2 o)) (([],0):List OpC×Int)).1=os:=by
 have h:∀ (l:List OpC) (p:List OpC×Int),(l.foldl (fun p o=>(p.1++[o],usedStep p.1 p.2 o)) p).1=p.1++l:=by
  intro l
  induction l with
  | nil=>intro p;simp
  | cons a l ih=>intro p;rw [List.foldl_cons,ih];simp
 rw [h]
 rfl
theorem usedF_snoc (os:List OpC) (o:OpC):usedF (os++[o])=usedStep os (usedF os) o:=by
 unfold usedF
 rw [List.foldl_append,List.foldl_cons,List.foldl_nil,usedF_pre]
def firsts:List OpC->List ByteArray->List ByteArray
 | [],acc=>acc
 | o::os,acc=>firsts os (if o.kind=3\/o.name∈acc then acc else acc++[o.name])
def sumL (f:ByteArray->Int) (l:List ByteArray):Int:=(l.map f).foldr (· + ·) 0
theorem sumL_snoc (f:ByteArray->Int) (l:List ByteArray) (s:ByteArray):sumL f (l++[s])=sumL f l+f s:=by
 induction l with
 | nil=>simp [sumL]
 | cons a l ih=>
  have e:∀ l,sumL f (a::l)=f a+sumL f l:=fun l=>rfl
  rw [List.cons_append,e,e,ih]
  omega
theorem sumL_cons (f:ByteArray->Int) (a:ByteArray) (l:List ByteArray):sumL f (a::l)=f a+sumL f l:=rfl
theorem sumL_upd {f g:ByteArray->Int} {s:ByteArray} (hne:∀ x,x≠s->g x=f x):∀ (l:List ByteArray),l.Nodup->sumL g l=if s∈l then sumL f l-f s+g s else sumL f l
 | [],_=>by simp [sumL]
 | a::l,hn=>by
  obtain⟨h1,h2⟩:=List.nodup_cons.1 hn
  have ih:=sumL_upd hne l h2
  rw [sumL_cons,sumL_cons,ih]
  by_cases ha:a=s
  ·subst ha
   rw [if_neg h1,if_pos (List.mem_cons_self ..)]
   omega
  ·have hs:s∈a::l↔s∈l:=by simp [Ne.symm ha]
   rw [hne a ha]
   by_cases hm:s∈l
   ·rw [if_pos hm,if_pos (hs.2 hm)];omega
   ·rw [if_neg hm,if_neg (fun h=>hm (hs.1 h))]
theorem firsts_snoc:∀ (os:List OpC) (o:OpC) (acc:List ByteArray),firsts (os++[o]) acc=if o.kind=3\/o.name∈firsts os acc then firsts os acc else firsts os acc++[o.name]
 | [],o,acc=>rfl
 | a::os,o,acc=>by
  rw [List.cons_append,firsts,firsts,firsts_snoc os o]
theorem firsts_nodup:∀ (os:List OpC) (acc:List ByteArray),acc.Nodup->(firsts os acc).Nodup
 | [],_,h=>h
 | o::os,acc,h=>by
  rw [firsts]
  apply firsts_nodup os
  split
  ·exact h
  ·rename_i hx
   rw [List.nodup_append]
   refine⟨h,by simp,?_⟩
   intro a ha b hb
   rw [List.mem_singleton] at hb
   subst hb
   rintro rfl
   exact hx (.inr ha)
theorem sizeC_none:∀ (os:List OpC) (s:ByteArray),s∉firsts os []->sizeC os s=0:=by
 intro os s
 refine snoc_ind (M:=fun os=>s∉firsts os []->sizeC os s=0) (fun _=>rfl) ?_ os
 ·intro os o ih h
  rw [firsts_snoc] at h
  rw [sizeC_snoc]
  by_cases hk:o.kind=3
  ·rw [if_pos (.inl hk)] at h
   rw [if_neg (fun hx=>hx.1 hk)]
   exact ih h
  ·by_cases hm:o.name∈firsts os []
   ·rw [if_pos (.inr hm)] at h
    rw [if_neg (fun hx:¬ o.kind=3/\o.name=s=>h (hx.2▸hm))]
    exact ih h
   ·rw [if_neg (fun hx=>hx.elim hk hm)] at h
    rw [List.mem_append,List.mem_singleton] at h
    rw [if_neg (fun hx:¬ o.kind=3/\o.name=s=>h (.inr hx.2.symm))]
    exact ih fun hx=>h (.inl hx)
theorem usedF_sum:∀ os:List OpC,usedF os=sumL (sizeC os) (firsts os []):=by
 intro os
 refine snoc_ind (M:=fun os=>usedF os=sumL (sizeC os) (firsts os [])) rfl ?_ os
 ·intro os o ih
  rw [usedF_snoc,firsts_snoc,ih]
  unfold usedStep
  by_cases hk:o.kind=3
  ·rw [if_pos hk,if_pos (.inl hk)]
   congr 1
   funext s
   rw [sizeC_snoc,if_neg (fun hx=>hx.1 hk)]
  ·rw [if_neg hk]
   have hne:∀ x,x≠o.name->sizeC (os++[o]) x=sizeC os x:=fun x hx=>by rw [sizeC_snoc,if_neg (fun h=>hx h.2.symm)]
   have hself:sizeC (os++[o]) o.name=if o.kind=1 then o.size else 0:=by rw [sizeC_snoc,if_pos ⟨hk,rfl⟩]
   have hu:=sumL_upd hne (firsts os []) (firsts_nodup os [] List.nodup_nil)
   by_cases hm:o.name∈firsts os []
   ·have hd:o.kind=3\/o.name∈firsts os []:=.inr hm
    simp only [if_pos hd]
    rw [hu,if_pos hm,hself]
   ·have hd:¬ (o.kind=3\/o.name∈firsts os []):=fun hx=>hx.elim hk hm
    simp only [if_neg hd]
    rw [sumL_snoc,hu,if_neg hm,hself,sizeC_none os o.name hm]
    omega
theorem less_before:∀ (a b:List UInt8),Op.bytesLess a b=bytesBefore a b
 | [],[]=>rfl
 | [],_::_=>rfl
 | _::_,[]=>rfl
 | a::x,b::y=>by simp [Op.bytesLess,bytesBefore,less_before x y]
def ltN (a b:ByteArray):Bool:=Op.bytesLess a.toList b.toList
section
variable {a b c:ByteArray}
theorem toList_inj (h:a.toList=b.toList):a=b:=by
 rw [ByteArray.toList_eq,ByteArray.toList_eq] at h
 obtain⟨x⟩:=a
 obtain⟨y⟩:=b
 have:x=y:=Array.toList_inj.1 h
 rw [this]
theorem ltN_irrefl (a:ByteArray):ltN a a=false:=by
 unfold ltN
 rw [less_before]
 exact WideAt.bytes_irrefl _
theorem ltN_trans (h1:ltN a b=true) (h2:ltN b c=true):ltN a c=true:=by
 unfold ltN at *
 rw [less_before] at *
 exact WideShapes.bytes_trans _ _ _ h1 h2
theorem ltN_total (h:a≠b):ltN a b=true\/ltN b a=true:=by
 unfold ltN
 rw [less_before,less_before]
 exact WideAt.bytes_total _ _ fun e=>h (toList_inj e)
end
def putS:List ByteArray->ByteArray->List ByteArray
 | [],s=>[s]
 | b::r,s=>if ltN b s=true then b::putS r s else if b=s then b::r else s::b::r
def Rising (l:List ByteArray):Prop:=l.Pairwise fun a b=>ltN a b=true
theorem putS_mem:∀ (l:List ByteArray) (s x:ByteArray),x∈putS l s↔x=s\/x∈l
 | [],s,x=>by simp [putS]
 | b::r,s,x=>by
  unfold putS
  split
  ·rw [List.mem_cons,putS_mem r s x,List.mem_cons]
   constructor
   ·rintro (h|h|h)
    ·exact .inr (.inl h)
    ·exact .inl h
    ·exact .inr (.inr h)
   ·rintro (h|h|h)
    ·exact .inr (.inl h)
    ·exact .inl h
    ·exact .inr (.inr h)
  ·split
   ·rename_i h
    subst h
    simp
   ·simp
theorem putS_rising:∀ (l:List ByteArray) (s:ByteArray),Rising l->Rising (putS l s)
 | [],s,_=>by simp [putS,Rising]
 | b::r,s,h=>by
  obtain⟨h1,h2⟩:=List.pairwise_cons.1 h
  unfold putS
  split
  ·rename_i hb
   refine List.pairwise_cons.2 ⟨fun x hx=>?_,putS_rising r s h2⟩
   rcases (putS_mem r s x).1 hx with rfl|hx
   ·exact hb
   ·exact h1 x hx
  ·rename_i hb
   split
   ·exact h
   ·rename_i hne
    have hs:ltN s b=true:=(ltN_total hne).resolve_left hb
    refine List.pairwise_cons.2 ⟨fun x hx=>?_,h⟩
    rcases List.mem_cons.1 hx with rfl|hx
    ·exact hs
    ·exact ltN_trans hs (h1 x hx)
theorem putS_sum (f:ByteArray->Int):∀ (l:List ByteArray) (s:ByteArray),Rising l->sumL f (putS l s)=if s∈l then sumL f l else sumL f l+f s
 | [],s,_=>by simp [putS,sumL]
 | b::r,s,h=>by
  obtain⟨h1,h2⟩:=List.pairwise_cons.1 h
  unfold putS
  by_cases hb:ltN b s=true
  ·have hne:s≠b:=by rintro rfl;rw [ltN_irrefl] at hb;cases hb
   have hm:s∈b::r↔s∈r:=by simp [hne]
   rw [if_pos hb,sumL_cons,putS_sum f r s h2,sumL_cons]
   by_cases hr:s∈r
   ·rw [if_pos hr,if_pos (hm.2 hr)]
   ·rw [if_neg hr,if_neg (fun h=>hr (hm.1 h))]
    omega
  ·rw [if_neg hb]
   by_cases he:b=s
   ·subst he
    rw [if_pos rfl,if_pos (List.mem_cons_self ..)]
   ·have hs:ltN s b=true:=(ltN_total he).resolve_left hb
    have hn:s∉b::r:=by
     intro hx
     rcases List.mem_cons.1 hx with rfl|hx
     ·exact he rfl
     ·have:=ltN_trans hs (h1 s hx)
      rw [ltN_irrefl] at this
      cases this
    rw [if_neg he,if_neg hn,sumL_cons,sumL_cons]
    omega
def namesStep (all:List OpC) (acc:List ByteArray) (o:OpC):List ByteArray:=if ¬ o.kind=3/\(liveC all o.name).isSome=true then putS acc o.name else acc
def namesC (all:List OpC) (os:List OpC):List ByteArray:=os.foldl (namesStep all) []
section
variable {s:ByteArray} {all:List OpC}
theorem namesC_snoc (all os:List OpC) (o:OpC):namesC all (os++[o])=namesStep all (namesC all os) o:=by
 unfold namesC
 rw [List.foldl_append]
 rfl
theorem namesC_rising (all:List OpC):∀ os,Rising (namesC all os):=by
 intro os
 refine snoc_ind (M:=fun os=>Rising (namesC all os)) List.Pairwise.nil ?_ os
 intro os o ih
 rw [namesC_snoc]
 unfold namesStep
 split
 ·exact putS_rising _ _ ih
 ·exact ih
theorem size_dead (h:¬ (liveC all s).isSome=true):sizeC all s=0:=by
 unfold sizeC
 cases hl:liveC all s with
 | none=>rfl
 | some z=>rw [hl] at h;exact absurd rfl h
theorem namesC_firsts (all:List OpC):∀ os,sumL (sizeC all) (namesC all os)=sumL (sizeC all) (firsts os [])/\∀ s,s∈namesC all os↔s∈firsts os []/\(liveC all s).isSome=true:=by
 intro os
 refine snoc_ind (M:=fun os=>sumL (sizeC all) (namesC all os)=sumL (sizeC all) (firsts os [])/\∀ s,s∈namesC all os↔s∈firsts os []/\(liveC all s).isSome=true) ⟨rfl,fun s=>by simp [namesC,firsts]⟩ ?_ os
 rintro os o ⟨ih1,ih2⟩
 rw [namesC_snoc,firsts_snoc]
 unfold namesStep
 by_cases hk:o.kind=3
 ·have hd:o.kind=3\/o.name∈firsts os []:=.inl hk
  rw [if_neg (fun hx:¬ o.kind=3/\_=>hx.1 hk)]
  simp only [if_pos hd]
  exact⟨ih1,ih2⟩
 by_cases hm:o.name∈firsts os []
 ·have hd:o.kind=3\/o.name∈firsts os []:=.inr hm
  simp only [if_pos hd]
  by_cases hl:(liveC all o.name).isSome=true
  ·rw [if_pos ⟨hk,hl⟩]
   have hin:o.name∈namesC all os:=(ih2 _).2 ⟨hm,hl⟩
   refine⟨by rw [putS_sum _ _ _ (namesC_rising all os),if_pos hin,ih1],fun s=>?_⟩
   rw [putS_mem,<-ih2]
   exact⟨fun h=>h.elim (fun e=>e▸hin) id,.inr⟩
  ·rw [if_neg (fun hx:¬ o.kind=3/\_=>hl hx.2)]
   exact⟨ih1,ih2⟩
 ·have hd:¬ (o.kind=3\/o.name∈firsts os []):=fun hx=>hx.elim hk hm
  simp only [if_neg hd]
  by_cases hl:(liveC all o.name).isSome=true
  ·rw [if_pos ⟨hk,hl⟩]
   have hin:o.name∉namesC all os:=fun h=>hm ((ih2 _).1 h).1
   refine⟨by rw [putS_sum _ _ _ (namesC_rising all os),if_neg hin,ih1,sumL_snoc],fun s=>?_⟩
   rw [putS_mem,ih2,List.mem_append,List.mem_singleton]
   constructor
   ·rintro (rfl|h)
    ·exact⟨.inr rfl,hl⟩
    ·exact⟨.inl h.1,h.2⟩
   ·rintro ⟨h|h,h'⟩
    ·exact .inr ⟨h,h'⟩
    ·exact .inl h
  ·rw [if_neg (fun hx:¬ o.kind=3/\_=>hl hx.2)]
   refine⟨by rw [ih1,sumL_snoc,size_dead hl];omega,fun s=>?_⟩
   rw [ih2,List.mem_append,List.mem_singleton]
   constructor
   ·exact fun h=>⟨.inl h.1,h.2⟩
   ·rintro ⟨h|h,h'⟩
    ·exact⟨h,h'⟩
    ·exact absurd (h▸h') hl
theorem used_names (os:List OpC):sumL (sizeC os) (namesC os os)=usedF os:=by
 rw [(namesC_firsts os os).1,usedF_sum]
end
end Go.Proofs.Ytaipgdhdfpemcaa
