/- THE WALKS OF THE LANE, part 16. -/
import Derived.Test.YtaipgdhdfpemcaaF8
import Derived.Test.YtaipgdhdfpemcaaF11
namespace Go.Proofs.Ytaipgdhdfpemcaa
set_option linter.all false
open Go.RowKit Go.Proofs.Try
set_option maxRecDepth 100000
set_option maxHeartbeats 4000000
instance memDec:(s:ByteArray)->(l:List ByteArray)->Decidable (s∈l)
 | _,[]=>isFalse (by simp)
 | s,a::l=>if h:s=a then isTrue (by simp [h]) else match memDec s l with
  | isTrue h'=>isTrue (List.mem_cons_of_mem _ h')
  | isFalse h'=>isFalse (by simp [h,h'])
theorem snoc_ind {M:List OpC->Prop} (nil:M []) (snoc:∀ os o,M os->M (os++[o])) (os:List OpC):M os:=by
 have h:∀ l:List OpC,M l.reverse:=by
  intro l
  induction l with
  | nil=>exact nil
  | cons a l ih=>rw [List.reverse_cons];exact snoc _ _ ih
 have:=h os.reverse
 rwa [List.reverse_reverse] at this
def lastOp (os:List OpC) (s:ByteArray):Option OpC:=os.reverse.find? fun o=>!decide (o.kind=3)&&decide (o.name=s)
def liveC (os:List OpC) (s:ByteArray):Option Int:=match lastOp os s with
 | some o=>if o.kind=1 then some o.size else none
 | none=>none
def sizeC (os:List OpC) (s:ByteArray):Int:=(liveC os s).getD 0
def clientC (os:List OpC) (c:Int):Option OpC:=os.reverse.find? fun o=>!decide (o.kind=3)&&decide (o.client=c)
def holderC (os:List OpC):Int×Int:=match os.reverse.find? fun o=>decide (o.kind=3) with
 | some o=>(o.epoch,o.site)
 | none=>(0,0)
def usedStep (os:List OpC) (u:Int) (o:OpC):Int:=if o.kind=3 then u else u-sizeC os o.name+(if o.kind=1 then o.size else 0)
section
variable (os:List OpC) (o:OpC)
include os o
section
variable (s:ByteArray)
include s
theorem lastOp_snoc:lastOp (os++[o]) s=if (!decide (o.kind=3)&&decide (o.name=s))=true then some o else lastOp os s:=by
 unfold lastOp
 rw [List.reverse_append]
 simp only [List.reverse_cons,List.reverse_nil,List.nil_append,List.singleton_append,List.find?_cons]
 split<;>simp_all
theorem liveC_snoc:liveC (os++[o]) s=if ¬ o.kind=3/\o.name=s then (if o.kind=1 then some o.size else none) else liveC os s:=by
 unfold liveC
 rw [lastOp_snoc]
 by_cases h:¬ o.kind=3/\o.name=s
 ·rw [if_pos h,if_pos (by simp [h.1,h.2])]
 ·rw [if_neg h,if_neg (by simpa using h)]
theorem sizeC_snoc:sizeC (os++[o]) s=if ¬ o.kind=3/\o.name=s then (if o.kind=1 then o.size else 0) else sizeC os s:=by
 unfold sizeC
 rw [liveC_snoc]
 split
 ·split<;>rfl
 ·rfl
end
theorem clientC_snoc (c:Int):clientC (os++[o]) c=if ¬ o.kind=3/\o.client=c then some o else clientC os c:=by
 unfold clientC
 rw [List.reverse_append]
 simp only [List.reverse_cons,List.reverse_nil,List.nil_append,List.singleton_append,List.find?_cons]
 by_cases h:¬ o.kind=3/\o.client=c
 ·rw [if_pos h]
  simp [h.1,h.2]
 ·rw [if_neg h]
  have:(!decide (o.kind=3)&&decide (o.client=c))=false:=by simpa using h
  rw [this]
theorem holderC_snoc:holderC (os++[o])=if o.kind=3 then (o.epoch,o.site) else holderC os:=by
 unfold holderC
 rw [List.reverse_append]
 simp only [List.reverse_cons,List.reverse_nil,List.nil_append,List.singleton_append,List.find?_cons]
 by_cases h:o.kind=3
 ·simp [h]
 ·simp [h]
end
def usedF:List OpC->Int:=fun os=>(os.foldl (fun p o=>(p.1++[o],usedStep p.1 p.2 o)) (([],0):List OpC×Int)).2
theorem usedF_pre (os:List OpC):(os.foldl (fun p o=>(p.1++[o],usedStep p.1 p.2 o)) (([],0):List OpC×Int)).1=os:=by
 have h:∀ (l:List OpC) (p:List OpC×Int),(l.foldl (fun p o=>(p.1++[o],usedStep p.1 p.2 o)) p).1=p.1++l:=by
  intro l
  induction l with
  | nil=>intro p;simp
  | cons a l ih=>intro p;rw [List.foldl_cons,ih];simp
 rw [h]
 rfl
theorem usedF_snoc (os:List OpC) (o:OpC):usedF (os++[o])=usedStep os (usedF os) o:=by
 unfold usedF
 rw [List.foldl_append,List.foldl_cons,List.foldl_nil,usedF_pre]
def firsts:List OpC->List ByteArray->List ByteArray
 | [],acc=>acc
 | o::os,acc=>firsts os (if o.kind=3\/o.name∈acc then acc else acc++[o.name])
def sumL (f:ByteArray->Int) (l:List ByteArray):Int:=(l.map f).foldr (· + ·) 0
section
variable {s:ByteArray} {f g:ByteArray->Int}
theorem sumL_snoc (f:ByteArray->Int) (l:List ByteArray) (s:ByteArray):sumL f (l++[s])=sumL f l+f s:=by
 induction l with
 | nil=>simp [sumL]
 | cons a l ih=>
  have e:∀ l,sumL f (a::l)=f a+sumL f l:=fun l=>rfl
  rw [List.cons_append,e,e,ih]
  omega
theorem sumL_cons (f:ByteArray->Int) (a:ByteArray) (l:List ByteArray):sumL f (a::l)=f a+sumL f l:=rfl
theorem sumL_upd (hne:∀ x,x≠s->g x=f x):∀ (l:List ByteArray),l.Nodup->sumL g l=if s∈l then sumL f l-f s+g s else sumL f l
 | [],_=>by simp [sumL]
 | a::l,hn=>by
  obtain⟨h1,h2⟩:=List.nodup_cons.1 hn
  have ih:=sumL_upd hne l h2
  rw [sumL_cons,sumL_cons,ih]
  by_cases ha:a=s
  ·subst ha
   rw [if_neg h1,if_pos (List.mem_cons_self ..)]
   omega
  ·have hs:s∈a::l↔s∈l:=by simp [Ne.symm ha]
   rw [hne a ha]
   by_cases hm:s∈l
   ·rw [if_pos hm,if_pos (hs.2 hm)];omega
   ·rw [if_neg hm,if_neg (fun h=>hm (hs.1 h))]
theorem firsts_snoc:∀ (os:List OpC) (o:OpC) (acc:List ByteArray),firsts (os++[o]) acc=if o.kind=3\/o.name∈firsts os acc then firsts os acc else firsts os acc++[o.name]
 | [],o,acc=>rfl
 | a::os,o,acc=>by
  rw [List.cons_append,firsts,firsts,firsts_snoc os o]
theorem firsts_nodup:∀ (os:List OpC) (acc:List ByteArray),acc.Nodup->(firsts os acc).Nodup
 | [],_,h=>h
 | o::os,acc,h=>by
  rw [firsts]
  apply firsts_nodup os
  split
  ·exact h
  ·rename_i hx
   rw [List.nodup_append]
   refine⟨h,by simp,?_⟩
   intro a ha b hb
   rw [List.mem_singleton] at hb
   subst hb
   rintro rfl
   exact hx (.inr ha)
theorem sizeC_none:∀ (os:List OpC) (s:ByteArray),s∉firsts os []->sizeC os s=0:=by
 intro os s
 refine snoc_ind (M:=fun os=>s∉firsts os []->sizeC os s=0) (fun _=>rfl) ?_ os
 ·intro os o ih h
  rw [firsts_snoc] at h
  rw [sizeC_snoc]
  by_cases hk:o.kind=3
  ·rw [if_pos (.inl hk)] at h
   rw [if_neg (fun hx=>hx.1 hk)]
   exact ih h
  ·by_cases hm:o.name∈firsts os []
   ·rw [if_pos (.inr hm)] at h
    rw [if_neg (fun hx:¬ o.kind=3/\o.name=s=>h (hx.2▸hm))]
    exact ih h
   ·rw [if_neg (fun hx=>hx.elim hk hm)] at h
    rw [List.mem_append,List.mem_singleton] at h
    rw [if_neg (fun hx:¬ o.kind=3/\o.name=s=>h (.inr hx.2.symm))]
    exact ih fun hx=>h (.inl hx)
theorem usedF_sum:∀ os:List OpC,usedF os=sumL (sizeC os) (firsts os []):=by
 intro os
 refine snoc_ind (M:=fun os=>usedF os=sumL (sizeC os) (firsts os [])) rfl ?_ os
 ·intro os o ih
  rw [usedF_snoc,firsts_snoc,ih]
  unfold usedStep
  by_cases hk:o.kind=3
  ·rw [if_pos hk,if_pos (.inl hk)]
   congr 1
   funext s
   rw [sizeC_snoc,if_neg (fun hx=>hx.1 hk)]
  ·rw [if_neg hk]
   have hne:∀ x,x≠o.name->sizeC (os++[o]) x=sizeC os x:=fun x hx=>by rw [sizeC_snoc,if_neg (fun h=>hx h.2.symm)]
   have hself:sizeC (os++[o]) o.name=if o.kind=1 then o.size else 0:=by rw [sizeC_snoc,if_pos ⟨hk,rfl⟩]
   have hu:=sumL_upd hne (firsts os []) (firsts_nodup os [] List.nodup_nil)
   by_cases hm:o.name∈firsts os []
   ·have hd:o.kind=3\/o.name∈firsts os []:=.inr hm
    simp only [if_pos hd]
    rw [hu,if_pos hm,hself]
   ·have hd:¬ (o.kind=3\/o.name∈firsts os []):=fun hx=>hx.elim hk hm
    simp only [if_neg hd]
    rw [sumL_snoc,hu,if_neg hm,hself,sizeC_none os o.name hm]
    omega
end
theorem less_before:∀ (a b:List UInt8),Op.bytesLess a b=bytesBefore a b
 | [],[]=>rfl
 | [],_::_=>rfl
 | _::_,[]=>rfl
 | a::x,b::y=>by simp [Op.bytesLess,bytesBefore,less_before x y]
def ltN (a b:ByteArray):Bool:=Op.bytesLess a.toList b.toList
section
variable {a b c:ByteArray}
theorem toList_inj (h:a.toList=b.toList):a=b:=by
 rw [ByteArray.toList_eq,ByteArray.toList_eq] at h
 obtain⟨x⟩:=a
 obtain⟨y⟩:=b
 have:x=y:=Array.toList_inj.1 h
 rw [this]
theorem ltN_irrefl (a:ByteArray):ltN a a=false:=by
 unfold ltN
 rw [less_before]
 exact WideAt.bytes_irrefl _
theorem ltN_trans (h1:ltN a b=true) (h2:ltN b c=true):ltN a c=true:=by
 unfold ltN at *
 rw [less_before] at *
 exact WideShapes.bytes_trans _ _ _ h1 h2
theorem ltN_total (h:a≠b):ltN a b=true\/ltN b a=true:=by
 unfold ltN
 rw [less_before,less_before]
 exact WideAt.bytes_total _ _ fun e=>h (toList_inj e)
end
def putS:List ByteArray->ByteArray->List ByteArray
 | [],s=>[s]
 | b::r,s=>if ltN b s=true then b::putS r s else if b=s then b::r else s::b::r
def Rising (l:List ByteArray):Prop:=l.Pairwise fun a b=>ltN a b=true
theorem putS_mem:∀ (l:List ByteArray) (s x:ByteArray),x∈putS l s↔x=s\/x∈l
 | [],s,x=>by simp [putS]
 | b::r,s,x=>by
  unfold putS
  split
  ·rw [List.mem_cons,putS_mem r s x,List.mem_cons]
   constructor
   ·rintro (h|h|h)
    ·exact .inr (.inl h)
    ·exact .inl h
    ·exact .inr (.inr h)
   ·rintro (h|h|h)
    ·exact .inr (.inl h)
    ·exact .inl h
    ·exact .inr (.inr h)
  ·split
   ·rename_i h
    subst h
    simp
   ·simp
theorem putS_rising:∀ (l:List ByteArray) (s:ByteArray),Rising l->Rising (putS l s)
 | [],s,_=>by simp [putS,Rising]
 | b::r,s,h=>by
  obtain⟨h1,h2⟩:=List.pairwise_cons.1 h
  unfold putS
  split
  ·rename_i hb
   refine List.pairwise_cons.2 ⟨fun x hx=>?_,putS_rising r s h2⟩
   rcases (putS_mem r s x).1 hx with rfl|hx
   ·exact hb
   ·exact h1 x hx
  ·rename_i hb
   split
   ·exact h
   ·rename_i hne
    have hs:ltN s b=true:=(ltN_total hne).resolve_left hb
    refine List.pairwise_cons.2 ⟨fun x hx=>?_,h⟩
    rcases List.mem_cons.1 hx with rfl|hx
    ·exact hs
    ·exact ltN_trans hs (h1 x hx)
theorem putS_sum (f:ByteArray->Int):∀ (l:List ByteArray) (s:ByteArray),Rising l->sumL f (putS l s)=if s∈l then sumL f l else sumL f l+f s
 | [],s,_=>by simp [putS,sumL]
 | b::r,s,h=>by
  obtain⟨h1,h2⟩:=List.pairwise_cons.1 h
  unfold putS
  by_cases hb:ltN b s=true
  ·have hne:s≠b:=by rintro rfl;rw [ltN_irrefl] at hb;cases hb
   have hm:s∈b::r↔s∈r:=by simp [hne]
   rw [if_pos hb,sumL_cons,putS_sum f r s h2,sumL_cons]
   by_cases hr:s∈r
   ·rw [if_pos hr,if_pos (hm.2 hr)]
   ·rw [if_neg hr,if_neg (fun h=>hr (hm.1 h))]
    omega
  ·rw [if_neg hb]
   by_cases he:b=s
   ·subst he
    rw [if_pos rfl,if_pos (List.mem_cons_self ..)]
   ·have hs:ltN s b=true:=(ltN_total he).resolve_left hb
    have hn:s∉b::r:=by
     intro hx
     rcases List.mem_cons.1 hx with rfl|hx
     ·exact he rfl
     ·have:=ltN_trans hs (h1 s hx)
      rw [ltN_irrefl] at this
      cases this
    rw [if_neg he,if_neg hn,sumL_cons,sumL_cons]
    omega
def namesStep (all:List OpC) (acc:List ByteArray) (o:OpC):List ByteArray:=if ¬ o.kind=3/\(liveC all o.name).isSome=true then putS acc o.name else acc
def namesC (all:List OpC) (os:List OpC):List ByteArray:=os.foldl (namesStep all) []
section
variable {s:ByteArray} {all:List OpC}
theorem namesC_snoc (all os:List OpC) (o:OpC):namesC all (os++[o])=namesStep all (namesC all os) o:=by
 unfold namesC
 rw [List.foldl_append]
 rfl
theorem namesC_rising (all:List OpC):∀ os,Rising (namesC all os):=by
 intro os
 refine snoc_ind (M:=fun os=>Rising (namesC all os)) List.Pairwise.nil ?_ os
 intro os o ih
 rw [namesC_snoc]
 unfold namesStep
 split
 ·exact putS_rising _ _ ih
 ·exact ih
theorem size_dead (h:¬ (liveC all s).isSome=true):sizeC all s=0:=by
 unfold sizeC
 cases hl:liveC all s with
 | none=>rfl
 | some z=>rw [hl] at h;exact absurd rfl h
theorem namesC_firsts (all:List OpC):∀ os,sumL (sizeC all) (namesC all os)=sumL (sizeC all) (firsts os [])/\∀ s,s∈namesC all os↔s∈firsts os []/\(liveC all s).isSome=true:=by
 intro os
 refine snoc_ind (M:=fun os=>sumL (sizeC all) (namesC all os)=sumL (sizeC all) (firsts os [])/\∀ s,s∈namesC all os↔s∈firsts os []/\(liveC all s).isSome=true) ⟨rfl,fun s=>by simp [namesC,firsts]⟩ ?_ os
 rintro os o ⟨ih1,ih2⟩
 rw [namesC_snoc,firsts_snoc]
 unfold namesStep
 by_cases hk:o.kind=3
 ·have hd:o.kind=3\/o.name∈firsts os []:=.inl hk
  rw [if_neg (fun hx:¬ o.kind=3/\_=>hx.1 hk)]
  simp only [if_pos hd]
  exact⟨ih1,ih2⟩
 by_cases hm:o.name∈firsts os []
 ·have hd:o.kind=3\/o.name∈firsts os []:=.inr hm
  simp only [if_pos hd]
  by_cases hl:(liveC all o.name).isSome=true
  ·rw [if_pos ⟨hk,hl⟩]
   have hin:o.name∈namesC all os:=(ih2 _).2 ⟨hm,hl⟩
   refine⟨by rw [putS_sum _ _ _ (namesC_rising all os),if_pos hin,ih1],fun s=>?_⟩
   rw [putS_mem,<-ih2]
   exact⟨fun h=>h.elim (fun e=>e▸hin) id,.inr⟩
  ·rw [if_neg (fun hx:¬ o.kind=3/\_=>hl hx.2)]
   exact⟨ih1,ih2⟩
 ·have hd:¬ (o.kind=3\/o.name∈firsts os []):=fun hx=>hx.elim hk hm
  simp only [if_neg hd]
  by_cases hl:(liveC all o.name).isSome=true
  ·rw [if_pos ⟨hk,hl⟩]
   have hin:o.name∉namesC all os:=fun h=>hm ((ih2 _).1 h).1
   refine⟨by rw [putS_sum _ _ _ (namesC_rising all os),if_neg hin,ih1,sumL_snoc],fun s=>?_⟩
   rw [putS_mem,ih2,List.mem_append,List.mem_singleton]
   constructor
   ·rintro (rfl|h)
    ·exact⟨.inr rfl,hl⟩
    ·exact⟨.inl h.1,h.2⟩
   ·rintro ⟨h|h,h'⟩
    ·exact .inr ⟨h,h'⟩
    ·exact .inl h
  ·rw [if_neg (fun hx:¬ o.kind=3/\_=>hl hx.2)]
   refine⟨by rw [ih1,sumL_snoc,size_dead hl];omega,fun s=>?_⟩
   rw [ih2,List.mem_append,List.mem_singleton]
   constructor
   ·exact fun h=>⟨.inl h.1,h.2⟩
   ·rintro ⟨h|h,h'⟩
    ·exact⟨h,h'⟩
    ·exact absurd (h▸h') hl
theorem used_names (os:List OpC):sumL (sizeC os) (namesC os os)=usedF os:=by
 rw [(namesC_firsts os os).1,usedF_sum]
end
section
variable {ad:Addr} {fence hE hS quota room settled u:Int} {cp g k lc ln m1 m2 n ob oc on pc pn:Nat} {lA oA pA:O} {o:OpC} {sl:Value} {w:World}
section
variable (Q:Z) (a:Act)
include Q a
section
variable (hfr:Fr 73 a [(0,g),(6,sl),(7,.int .i64 (n:Nat)),(8,.int .i64 (k:Nat))])
include hfr
theorem ft1 (hQ:∀ a',Fr 73 a' [(0,g),(6,sl),(7,.int .i64 (n:Nat)),(8,.int .i64 (k:Nat)),(9,(decide (k<n)))]->Q .normal a' w) :
 (part [1,0,0,0] (codeOf takeFF)).wp prog Q a w:=by
 have HQ:=J hQ
 clear hQ
 refine gg hfr fun t=>?_
 by_cases hk:k<n
 ·have d:decide ((k:Int)<(n:Int))=true:=decide_eq_true (by omega)
  have HD:=J (decide_eq_true hk)
  exact Y187
 ·have d:decide ((k:Int)<(n:Int))=false:=decide_eq_false (by omega)
  have HD:=J (decide_eq_false hk)
  exact Y187
theorem ft11 (hk:k<100000) (hQ:∀ a',Fr 73 a' [(0,g),(6,sl),(7,.int .i64 (n:Nat)),(8,.int .i64 ((k+1:Nat):Nat))]->Q .normal a' w) :
 (part [1,0,0,1,1,1] (codeOf takeFF)).wp prog Q a w:=by
 have HQ:=J hQ
 clear hQ
 refine gg hfr fun t=>?_
 go_wp2_with fail
 exact HQ.out _ ⟨rfl,rfl,rfl,rfl,rfl,by simp [at_],trivial⟩
end
theorem ft2 (hfr:Fr 73 a [(0,g),(6,.slice (some ad) n cp),(7,.int .i64 (n:Nat)),(8,.int .i64 (k:Nat))]) (hk:k<n) (hop:OpAt w (ad.add (k*9)) (o.at_ oA on oc)) (hQ:∀ a' w',Fr 73 a' [(0,g),(5,(w:Nat)),(6,.slice (some ad) n cp),(7,.int .i64 (n:Nat)),(8,.int .i64 (k:Nat))]->Blk w' w 45 (oC o.n o.epoch o.kind o.site o.client o.seq o.name o.size oA on oc)->Below w w w'->Q .normal a' w') :
 (part [1,0,0,1,1,0,0,0] (codeOf takeFF)).wp prog Q a w:=by
 obtain⟨k0,k1,k2,k3,k4,k5,k6,k7,k8⟩:=hop
 simp only [OpC.at_] at k0 k1 k2 k3 k4 k5 k6 k7 k8
 have b1:(0:Int)<=(k:Int):=by omega
 have b2:(k:Int)<(n:Int):=by omega
 have HQ:=J hQ
 have HP:=J (Blk.new w 45 (oC o.n o.epoch o.kind o.site o.client o.seq o.name o.size oA on oc))
 have HB:=J ((Below.refl w.heap.size w).alloc (Nat.le_refl _) (.cells (oC o.n o.epoch o.kind o.site o.client o.seq o.name o.size oA on oc) 45))
 clear hQ hk
 refine gg hfr fun t=>?_
 go_wp2_with fail
 exact HQ.out _ _ ff HP.out HB.out
section
variable (hfr:Fr 73 a [(0,g),(5,ob),(6,sl),(7,.int .i64 (n:Nat)),(8,.int .i64 (k:Nat))])
include hfr
section
variable (ho:Blk w ob 45 (oC o.n o.epoch o.kind o.site o.client o.seq o.name o.size oA on oc))
include ho
theorem ft3 (hQ:∀ a',Fr 73 a' [(0,g),(5,ob),(6,sl),(7,.int .i64 (n:Nat)),(8,.int .i64 (k:Nat)),(14,(decide (o.kind=3)))]->Q .normal a' w) :
 (part [1,0,0,1,1,0,0,1,0,0] (codeOf takeFF)).wp prog Q a w:=by
 have o2:=ho.c1 2
 have HQ:=J hQ
 have HV:=J (show (o.kind==3)=decide (o.kind=3) from rfl)
 exact Y153
theorem ft7 (hQ:∀ a',Fr 73 a' [(0,g),(5,ob),(6,sl),(7,.int .i64 (n:Nat)),(8,.int .i64 (k:Nat)),(46,(decide (o.kind=1)))]->Q .normal a' w) :
 (part [1,0,0,1,1,0,0,1,1,1,1,0,0] (codeOf takeFF)).wp prog Q a w:=by
 have o2:=ho.c1 2
 have HQ:=J hQ
 have HV:=J (show (o.kind==1)=decide (o.kind=1) from rfl)
 exact Y153
end
theorem ft4 (hg:Blk w g 98 (ledC (.map (some m1)) u (.map (some m2)) hE hS pA pn pc lA ln lc fence settled quota room)) (ho:Blk w ob 45 (oC o.n o.epoch o.kind o.site o.client o.seq o.name o.size oA on oc)) (hQ:∀ a',Fr 73 a' [(0,g),(5,ob),(6,sl),(7,.int .i64 (n:Nat)),(8,.int .i64 (k:Nat))]->Q (.exit 1) a' ((w.setCell ⟨g,3,none⟩ (.int .i64 o.epoch)).setCell ⟨g,4,none⟩ (.int .i64 o.site))) :
 (part [1,0,0,1,1,0,0,1,0,1,0] (codeOf takeFF)).wp prog Q a w:=by
 obtain⟨g3,g4⟩:=hg.cs 3 2
 have o1:=ho.c1 1
 have o3:=ho.c1 3
 have f3:w.frozen? ⟨g,3,none⟩=false:=hg.frozen 3
 have f4:w.frozen? ⟨g,4,none⟩=false:=hg.frozen 4
 have HQ:=J hQ
 clear hQ hg ho
 exact Y13
end
end
end
def One (x:Nat) (w w':World):Prop:=Save x w w'/\Below x w w'
section
variable {i j x:Nat} {w w':World}
theorem One.set (v:Value):One x w (w.setCell ⟨x,i,none⟩ v).drew:=
 ⟨fun b _ hb=>Below.heap_setCell _ _ _ b hb,((Below.refl x w).setCell (Nat.le_refl _) v).drew⟩
theorem One.set2 (v u:Value):One x w ((w.setCell ⟨x,i,none⟩ v).setCell ⟨x,j,none⟩ u):=
 ⟨fun b _ hb=>(Below.heap_setCell _ _ _ b hb).trans (Below.heap_setCell _ _ _ b hb),((Below.refl x w).setCell (Nat.le_refl _) v).setCell (Nat.le_refl _) u⟩
theorem One.turned (h:w.drew.mapTurned w' x):One x w w':=by
 obtain⟨es,c,es',c',hb,rfl⟩:=h
 have ho:∀ b,b≠x->(ChangeMaps.setBlock w.drew x (.map es' c')).heap[b]? = w.heap[b]?:=fun b hb'=>ChangeMaps.heap_setBlock_other hb _ hb'
 exact⟨fun b _ hb'=>ho b hb',⟨rfl,rfl,rfl,by simp [ChangeMaps.setBlock],fun b hb'=>ho b (by omega)⟩⟩
theorem One.grown (h:w.drew.grownBy w' (some x)) (hx:x<w):One x w w':=by
 have hb:∀ b,b<w.heap.size->b≠x->w'.heap[b]? = w.heap[b]?:=fun b h1 h2=>h.block b h1 fun e=>h2 (by injection e)
 exact⟨hb,⟨h.os,h.tape,h.output,h.size,fun b h1=>hb b (by omega) (by omega)⟩⟩
end
structure FoldAt (W w:World) (B g m1 m2:Nat) (os:List OpC) (pA:O) (pn pc:Nat) (lA:O) (ln lc:Nat) (fence settled quota room:Int):Prop where
 blk:Blk w g 98 (ledC (.map (some m1)) (usedF os) (.map (some m2)) (holderC os).1 (holderC os).2 pA pn pc lA ln lc fence settled quota room)
 live:LiveF w m1 os.length (liveC os)
 last:LastF w m2 os.length (fun c=>(clientC os c).map fun o=>(o.n,o.epoch,o.seq))
 low:Below B W w
 others:∀ b,b<W.heap.size->b≠g->b≠m1->b≠m2->w.heap[b]? = W.heap[b]?
 n1:g≠m1
 n2:g≠m2
 n3:m1≠m2
 bg:B<=g
 b1:B<=m1
 b2:B<=m2
structure Fits (o:OpC):Prop where
 ok:o.Ok
 name:o.name.size<=maxLen
 size:0<=o.size/\o.size<=512
section
variable {os:List OpC}
theorem sizeC_fits (h:∀ o∈os,Fits o) (s:ByteArray):0<=sizeC os s/\sizeC os s<=512:=by
 unfold sizeC liveC lastOp
 cases hf:os.reverse.find? fun o=>!decide (o.kind=3)&&decide (o.name=s) with
 | none=>exact (show (0:Int)<=0/\(0:Int)<=512 from ⟨by omega,by omega⟩)
 | some o=>
  have hm:o∈os:=by have:=List.mem_of_find?_eq_some hf;simpa using this
  have hs:=(h o hm).size
  by_cases hk:o.kind=1
  ·simp [hk,hs]
  ·simp [hk]
theorem usedF_fits:∀ os:List OpC,(∀ o∈os,Fits o)->0<=usedF os/\usedF os<=512*os.length:=by
 intro os h
 have hs:=sizeC_fits h
 rw [usedF_sum]
 have h1:∀ l:List ByteArray,0<=sumL (sizeC os) l/\sumL (sizeC os) l<=512*l.length:=by
  intro l
  induction l with
  | nil=>exact⟨Int.le_refl _,by simp [sumL]⟩
  | cons a l ih=>
   have:=hs a
   rw [sumL_cons,List.length_cons]
   omega
 have h2:∀ (l:List OpC) (acc:List ByteArray),(firsts l acc).length<=acc.length+l.length:=by
  intro l
  induction l with
  | nil=>intro acc;simp [firsts]
  | cons a l ih=>
   intro acc
   rw [firsts]
   have:=ih (if a.kind=3\/a.name∈acc then acc else acc++[a.name])
   rw [List.length_cons]
   split at this
   ·rename_i hx;rw [if_pos hx];omega
   ·rename_i hx;rw [if_neg hx];simp at this ⊢;omega
 have h3:=h2 os []
 have h4:=h1 (firsts os [])
 simp at h3
 omega
end
section
variable {W w w':World} {B g m1 m2:Nat} {os:List OpC} {pA:O} {pn pc:Nat} {lA:O} {ln lc:Nat} {fence settled quota room:Int}
theorem FoldAt.below (h:FoldAt W w B g m1 m2 os pA pn pc lA ln lc fence settled quota room) (hb:Below w w w') (hs:W.heap.size<=w) (hB:B<=w):FoldAt W w' B g m1 m2 os pA pn pc lA ln lc fence settled quota room:=
 ⟨h.blk.below hb h.blk.lt,h.live.keep (hb.block m1 h.live.lt),h.last.keep (hb.block m2 h.last.lt),h.low.trans (hb.mono hB),fun b h1 h2 h3 h4=>(hb.block b (by omega)).trans (h.others b h1 h2 h3 h4),h.n1,h.n2,h.n3,h.bg,h.b1,h.b2⟩
end
theorem fold_reign {W w:World} {B g m1 m2:Nat} {os:List OpC} {pA:O} {pn pc:Nat} {lA:O} {ln lc:Nat} {fence settled quota room:Int} {o:OpC} (h:FoldAt W w B g m1 m2 os pA pn pc lA ln lc fence settled quota room) (hk:o.kind=3) (hs:W.heap.size<=w) :
 FoldAt W ((w.setCell ⟨g,3,none⟩ (.int .i64 o.epoch)).setCell ⟨g,4,none⟩ (.int .i64 o.site)) B g m1 m2 (os++[o]) pA pn pc lA ln lc fence settled quota room:=by
 have h1:One g w ((w.setCell ⟨g,3,none⟩ (.int .i64 o.epoch)).setCell ⟨g,4,none⟩ (.int .i64 o.site)):=One.set2 _ _
 refine⟨?_,?_,?_,h.low.trans (h1.2.mono h.bg),fun b p1 p2 p3 p4=>(h1.1 b (by omega) p2).trans (h.others b p1 p2 p3 p4),h.n1,h.n2,h.n3,h.bg,h.b1,h.b2⟩
 ·rw [usedF_snoc,holderC_snoc,if_pos hk]
  unfold usedStep
  rw [if_pos hk]
  exact (h.blk.set_ 3 _).set_ 4 _
 ·refine ((h.live.keep (h1.1 m1 h.live.lt h.n1.symm)).more (by simp)).same fun s=>?_
  rw [liveC_snoc,if_neg (fun hx=>hx.1 hk)]
 ·refine ((h.last.keep (h1.1 m2 h.last.lt h.n2.symm)).more (by simp)).same fun s=>?_
  rw [clientC_snoc,if_neg (fun hx=>hx.1 hk)]
theorem spotLed_any (a1 a2 a3 a4 a5 a6:Int) (a7:ByteArray) (a8:Int) (a9:Value) (w:World) :
 Calls prog 80 #[.agg #[a1,a2,a3,a4,a5,a6,.string a7,a8,a9]] w fun x w'=>x=.returned (.agg #[a1,a2])/\Below w w w':=by
 go_enter func80,ntmps80
 go_wp2
 refine bodyPost_ret (v:=.agg #[a1,a2]) (by simp [results,results80,go_sem]) rfl ?_
 exact Y107
theorem freshM_any (w:World):Calls prog 40 #[] w fun x w'=>∃ m1 m2,x=.returned (.agg #[.map (some m1),.int .i64 0,.map (some m2),.int .i64 0,.int .i64 0])/\LiveF w' m1 0 (fun _=>none)/\LastF w' m2 0 (fun _=>none)/\m1≠m2/\w.heap.size<=m1/\w.heap.size<=m2/\Below w w w':=by
 go_enter func40,ntmps40
 go_wp2
 rw [run_makeMap_plain]
 go_wp2
 rw [run_makeMap_plain]
 go_wp2
 refine bodyPost_ret (v:=.agg #[.map (some (w.heap.size+1)),.int .i64 0,.map (some (w.heap.size+1+1)),.int .i64 0,.int .i64 0]) (by simp [results,results40,go_sem]) rfl ?_
 refine⟨_,_,rfl,?_,?_,by omega,by omega,by omega,(((Below.refl _ _).alloc (Nat.le_refl _) _).alloc (by simp) _).alloc (by simp;omega) _⟩
 ·have h:=LiveF.made (w.alloc (.cells #[.map (some (w.heap.size+1)),.int .i64 0,.map (some (w.heap.size+1+1)),.int .i64 0,.int .i64 0] 95))
  have e:(w.alloc (.cells #[.map (some (w.heap.size+1)),.int .i64 0,.map (some (w.heap.size+1+1)),.int .i64 0,.int .i64 0] 95)).heap.size=w.heap.size+1:=by simp
  rw [e] at h
  exact h.keep (Below.heap_alloc _ _ _ (by simp))
 ·have h:=LastF.made ((w.alloc (.cells #[.map (some (w.heap.size+1)),.int .i64 0,.map (some (w.heap.size+1+1)),.int .i64 0,.int .i64 0] 95)).alloc (.map #[] 0))
  have e:((w.alloc (.cells #[.map (some (w.heap.size+1)),.int .i64 0,.map (some (w.heap.size+1+1)),.int .i64 0,.int .i64 0] 95)).alloc (.map #[] 0)).heap.size=w.heap.size+1+1:=by simp
  rw [e] at h
  exact h
theorem newLed_any (w:World):Calls prog 8 #[.int .i64 65536,.int .i64 64] w fun x w'=>∃ g m1 m2,x=.returned (.tuple #[.pointer (some ⟨g,0,none⟩),.int .i64 0])/\FoldAt w' w' w.heap.size g m1 m2 [] none 0 0 none 0 0 0 0 65536 64/\Below w w w':=by
 go_enter func8,ntmps8
 go_wp2_with fail
 refine (freshM_any _).mono ?_
 rintro x w1 ⟨m1,m2,rfl,hl,ht,hne,g1,g2,hb1⟩
 obtain⟨HL,HT,HB⟩:=J3 hl ht hb1
 have l1:=hl.lt
 have l2:=ht.lt
 clear hb1 hl ht
 go_wp2
 go_ret2
 have hB:=HB.out.size
 refine⟨_,m1,m2,rfl,⟨Blk.new w1 _ _,?_,?_,Below.refl _ _,fun _ _ _ _ _=>rfl,by omega,by omega,hne,hB,g1,g2⟩,HB.out.alloc hB _⟩
 ·exact (HL.out.keep (Below.heap_alloc _ _ _ l1)).same fun _=>rfl
 ·exact (HT.out.keep (Below.heap_alloc _ _ _ l2)).same fun _=>rfl
theorem newRefLed_any (w:World):Calls prog 9 #[.int .i64 65536,.int .i64 64] w fun x w'=>x=.returned (.tuple #[.pointer (some ⟨w.heap.size,0,none⟩),.int .i64 0])/\w'=w.alloc (.cells #[.slice none 0 0,.slice none 0 0,.int .i64 0,.int .i64 0,.int .i64 65536,.int .i64 64] 62):=by
 go_enter func9,ntmps9
 go_wp2
 go_ret2
 exact⟨rfl,rfl⟩
section
variable {ad:Addr} {fence quota room settled u:Int} {os:List OpC} {B cp g k lc ln m1 m2 n ob oc on pc pn:Nat} {lA oA pA:O} {o:OpC} {W w:World}
theorem ft_end (Q:Z) (a:Act) (hfr:Fr 73 a [(0,g),(5,ob),(6,.slice (some ad) n cp),(7,.int .i64 (n:Nat)),(8,.int .i64 (k:Nat))]) (blk:Blk w g 98 (ledC (.map (some m1)) u (.map (some m2)) (holderC os).1 (holderC os).2 pA pn pc lA ln lc fence settled quota room)) (hu:u=usedF (os++[o])) (live:LiveF w m1 (os.length+1) (liveC (os++[o]))) (last:LastF w m2 os.length (fun c=>(clientC os c).map fun o=>(o.n,o.epoch,o.seq))) (box:Blk w ob 45 (oC o.n o.epoch o.kind o.site o.client o.seq o.name o.size oA on oc)) (low:Below B W w) (oth:∀ b,b<W.heap.size->b≠g->b≠m1->b≠m2->w.heap[b]? = W.heap[b]?) (n1:g≠m1) (n2:g≠m2) (n3:m1≠m2) (bg:B<=g) (b1:B<=m1) (b2:B<=m2) (hk3:¬ o.kind=3) (hok:o.Ok) (hlen:os.length<=100000) (hQ:∀ a' w',Fr 73 a' [(0,g),(6,.slice (some ad) n cp),(7,.int .i64 (n:Nat)),(8,.int .i64 (k:Nat))]->FoldAt W w' B g m1 m2 (os++[o]) pA pn pc lA ln lc fence settled quota room->Q .normal a' w') :
 (part [1,0,0,1,1,0,0,1,1,1,1,1] (codeOf takeFF)).wp prog Q a w:=by
 refine ft10 Q a hfr blk box last hok.client (by unfold maxLen;omega) fun a' w' hf' hl hg=>?_
 have h1:=One.grown hg last.lt
 have hs:=low.size
 refine hQ a' w' ⟨hf'.1,hf'.2.1,hf'.2.2.1,hf'.2.2.2.2.1,hf'.2.2.2.2.2.1,hf'.2.2.2.2.2.2.1,trivial⟩ ⟨?_,?_,?_,low.trans (h1.2.mono b2),fun b p1 p2 p3 p4=>(h1.1 b (by omega) p4).trans (oth b p1 p2 p3 p4),n1,n2,n3,bg,b1,b2⟩
 ·rw [<-hu,holderC_snoc,if_neg hk3]
  exact h1.1.blk blk n2
 ·exact (live.keep (h1.1 m1 live.lt n3)).more (by simp)
 ·refine (hl.more (by simp)).same fun c=>?_
  rw [clientC_snoc]
  by_cases hc:c=o.client
  ·rw [if_pos hc,if_pos ⟨hk3,hc.symm⟩]
   rfl
  ·rw [if_neg hc,if_neg (fun hx=>hc hx.2.symm)]
theorem ft_round (Q:Z) (a:Act) (hfr:Fr 73 a [(0,g),(6,.slice (some ad) n cp),(7,.int .i64 (n:Nat)),(8,.int .i64 (k:Nat))]) (h:FoldAt W w B g m1 m2 os pA pn pc lA ln lc fence settled quota room) (hk:k<n) (hop:OpAt w (ad.add (k*9)) (o.at_ oA on oc)) (hfit:Fits o) (hfits:∀ o∈os,Fits o) (hlen:os.length<=100000) (hB:B<=W) (hQ:∀ a' w',Fr 73 a' [(0,g),(6,.slice (some ad) n cp),(7,.int .i64 (n:Nat)),(8,.int .i64 (k:Nat))]->FoldAt W w' B g m1 m2 (os++[o]) pA pn pc lA ln lc fence settled quota room->Q .normal a' w'/\Q (.exit 1) a' w') :
 (part [1,0,0,1,1,0,0] (codeOf takeFF)).wp prog Q a w:=by
 have hsW:=h.low.size
 have hub:=usedF_fits os hfits
 have hsz:=sizeC_fits hfits o.name
 have hfs:=hfit.size
 refine Ytaipgdhdfpemcaa.w2 ?_
 refine ft2 _ a hfr hk hop fun a1 w1 hf1 hbx hb1=>?_
 have h1:=h.below hb1 hsW (by omega)
 have hs1:=hb1.size
 have lg:=h.blk.lt
 have lm1:=h.live.lt
 have lm2:=h.last.lt
 show (part [1,0,0,1,1,0,0,1] (codeOf takeFF)).wp prog (Q) a1 w1
 refine Ytaipgdhdfpemcaa.w2 ?_
 refine Ytaipgdhdfpemcaa.w2 ?_
 refine ft3 _ a1 hf1 hbx fun a2 hf2=>?_
 show (part [1,0,0,1,1,0,0,1,0,1] (codeOf takeFF)).wp prog (Exit.then ((part [1,0,0,1,1,0,0,1,1] (codeOf takeFF)).wp prog Q) Q) a2 w1
 refine wp_if (x:=part [1,0,0,1,1,0,0,1,0,1,0] (codeOf takeFF)) (y:=part [1,0,0,1,1,0,0,1,0,1,1] (codeOf takeFF)) (o:=.tmp 14) kr (eval_at hf2.2.2.2.2.2.2.2.1 rfl) (fun ht=>?_) fun ht=>?_
 ·have hk3:o.kind=3:=of_decide_eq_true ht
  refine ft4 _ a2 ⟨hf2.1,hf2.2.1,hf2.2.2.1,hf2.2.2.2.1,hf2.2.2.2.2.1,hf2.2.2.2.2.2.1,hf2.2.2.2.2.2.2.1,trivial⟩ h1.blk hbx fun a3 hf3=>?_
  exact (hQ a3 _ ⟨hf3.1,hf3.2.1,hf3.2.2.1,hf3.2.2.2.2.1,hf3.2.2.2.2.2.1,hf3.2.2.2.2.2.2.1,trivial⟩ (fold_reign h1 hk3 (by omega))).2
 have hk3:¬ o.kind=3:=of_decide_eq_false ht
 refine wp_nop kr ?_
 show (part [1,0,0,1,1,0,0,1,1] (codeOf takeFF)).wp prog (Q) a2 w1
 refine Ytaipgdhdfpemcaa.w2 ?_
 refine ft5 _ a2 ⟨hf2.1,hf2.2.1,hf2.2.2.1,hf2.2.2.2.1,hf2.2.2.2.2.1,hf2.2.2.2.2.2.1,hf2.2.2.2.2.2.2.1,trivial⟩ h1.blk hbx h1.live hfit.name (wrap_id (by unfold sizeC at hsz;omega)) fun a3 w2 hf3 e2=>?_
 have o2:One g w1 w2:=by rw [e2];exact One.set _
 have k2:Blk w2 g 98 (ledC (.map (some m1)) (usedF os-sizeC os o.name) (.map (some m2)) (holderC os).1 (holderC os).2 pA pn pc lA ln lc fence settled quota room):=by rw [e2];exact h1.blk.set_ 1 _
 have s2:=o2.2.size
 have x2:=o2.1.blk hbx (by omega)
 have l2:=h1.live.keep (o2.1 m1 h1.live.lt h1.n1.symm)
 have t2:=h1.last.keep (o2.1 m2 h1.last.lt h1.n2.symm)
 show (part [1,0,0,1,1,0,0,1,1,1] (codeOf takeFF)).wp prog (Q) a3 w2
 refine Ytaipgdhdfpemcaa.w2 ?_
 refine ft6 _ a3 hf3 k2 x2 l2 hfit.name fun a4 w3 hf4 l3 g3=>?_
 have o3:=One.turned g3
 have s3:=o3.2.size
 have k3:=o3.1.blk k2 h1.n1
 have x3:=o3.1.blk x2 (by omega)
 have t3:=t2.keep (o3.1 m2 t2.lt h1.n3.symm)
 have w3low:Below B W w3:=(h1.low.trans (o2.2.mono h1.bg)).trans (o3.2.mono h1.b1)
 have w3oth:∀ b,b<W.heap.size->b≠g->b≠m1->b≠m2->w3.heap[b]? = W.heap[b]?:=fun b p1 p2 p3 p4=>(o3.1 b (by omega) p3).trans ((o2.1 b (by omega) p2).trans (h1.others b p1 p2 p3 p4))
 show (part [1,0,0,1,1,0,0,1,1,1,1] (codeOf takeFF)).wp prog (Q) a4 w3
 refine Ytaipgdhdfpemcaa.w2 ?_
 refine Ytaipgdhdfpemcaa.w2 ?_
 refine ft7 _ a4 hf4 x3 fun a5 hf5=>?_
 show (part [1,0,0,1,1,0,0,1,1,1,1,0,1] (codeOf takeFF)).wp prog (Exit.then ((part [1,0,0,1,1,0,0,1,1,1,1,1] (codeOf takeFF)).wp prog Q) Q) a5 w3
 refine wp_if (x:=part [1,0,0,1,1,0,0,1,1,1,1,0,1,0] (codeOf takeFF)) (y:=part [1,0,0,1,1,0,0,1,1,1,1,0,1,1] (codeOf takeFF)) (o:=.tmp 46) kr (eval_at hf5.2.2.2.2.2.2.2.1 rfl) (fun ht=>?_) fun ht=>?_
 ·have hk1:o.kind=1:=of_decide_eq_true ht
  refine Ytaipgdhdfpemcaa.w2 ?_
  refine ft8 _ a5 ⟨hf5.1,hf5.2.1,hf5.2.2.1,hf5.2.2.2.1,hf5.2.2.2.2.1,hf5.2.2.2.2.2.1,hf5.2.2.2.2.2.2.1,trivial⟩ k3 x3 l3 hfit.name (by unfold maxLen;omega) fun a6 w4 hf6 l4 g4=>?_
  have o4:=One.grown g4 l3.lt
  have s4:=o4.2.size
  have k4:=o4.1.blk k3 h1.n1
  have x4:=o4.1.blk x3 (by omega)
  have t4:=t3.keep (o4.1 m2 t3.lt h1.n3.symm)
  show (part [1,0,0,1,1,0,0,1,1,1,1,0,1,0,1] (codeOf takeFF)).wp prog (Exit.then ((part [1,0,0,1,1,0,0,1,1,1,1,1] (codeOf takeFF)).wp prog Q) Q) a6 w4
  refine ft9 _ a6 hf6 k4 x4 (wrap_id (by omega)) fun a7 w5 hf7 e5=>?_
  have o5:One g w4 w5:=by rw [e5];exact One.set _
  have k5:Blk w5 g 98 (ledC (.map (some m1)) (usedF os-sizeC os o.name+o.size) (.map (some m2)) (holderC os).1 (holderC os).2 pA pn pc lA ln lc fence settled quota room):=by rw [e5];exact k4.set_ 1 _
  have s5:=o5.2.size
  show (part [1,0,0,1,1,0,0,1,1,1,1,1] (codeOf takeFF)).wp prog (Q) a7 w5
  refine ft_end Q a7 hf7 k5 ?_ ((l4.keep (o5.1 m1 l4.lt h1.n1.symm)).same fun s=>?_) (t4.keep (o5.1 m2 t4.lt h1.n2.symm)) (o5.1.blk x4 (by omega)) ((w3low.trans (o4.2.mono h1.b1)).trans (o5.2.mono h1.bg)) (fun b p1 p2 p3 p4=>(o5.1 b (by omega) p2).trans ((o4.1 b (by omega) p3).trans (w3oth b p1 p2 p3 p4))) h1.n1 h1.n2 h1.n3 h1.bg h1.b1 h1.b2 hk3 hfit.ok hlen fun a' w' hf' hh=>(hQ a' w' hf' hh).1
  ·rw [usedF_snoc]
   unfold usedStep
   rw [if_neg hk3,if_pos hk1]
  ·rw [liveC_snoc]
   by_cases hs:s=o.name
   ·rw [if_pos ⟨hk3,hs.symm⟩,if_pos hk1,if_pos hs]
   ·rw [if_neg (fun hx=>hs hx.2.symm),if_neg hs,if_neg hs]
 ·have hk1:¬ o.kind=1:=of_decide_eq_false ht
  refine wp_nop kr ?_
  show (part [1,0,0,1,1,0,0,1,1,1,1,1] (codeOf takeFF)).wp prog (Q) a5 w3
  refine ft_end Q a5 ⟨hf5.1,hf5.2.1,hf5.2.2.1,hf5.2.2.2.1,hf5.2.2.2.2.1,hf5.2.2.2.2.2.1,hf5.2.2.2.2.2.2.1,trivial⟩ k3 ?_ ((l3.more (Nat.le_succ _)).same fun s=>?_) t3 x3 w3low w3oth h1.n1 h1.n2 h1.n3 h1.bg h1.b1 h1.b2 hk3 hfit.ok hlen fun a' w' hf' hh=>(hQ a' w' hf' hh).1
  ·rw [usedF_snoc]
   unfold usedStep
   rw [if_neg hk3,if_neg hk1]
   omega
  ·rw [liveC_snoc]
   by_cases hs:s=o.name
   ·rw [if_pos ⟨hk3,hs.symm⟩,if_neg hk1,if_pos hs]
   ·rw [if_neg (fun hx=>hs hx.2.symm),if_neg hs]
end
def TkI (w:World) (B g m1 m2:Nat) (os xs:List OpC) (pA:O) (pn pc:Nat) (lA:O) (ln lc:Nat) (fence settled quota room:Int) (A:O) (n cp:Nat) (a:Act) (w':World):Prop:=
 ∃ k:Nat,k<=n/\Fr 73 a [(0,g),(6,.slice A n cp),(7,.int .i64 (n:Nat)),(8,.int .i64 (k:Nat))]/\FoldAt w w' B g m1 m2 (os++xs.take k) pA pn pc lA ln lc fence settled quota room
def muTk (n:Nat) (a:Act):Nat:=n-(match at_ a.tmps 8 with|.int _ z=>z.toNat|_=>0)
theorem take_any {w:World} {B g m1 m2:Nat} {os xs:List OpC} {pA:O} {pn pc:Nat} {lA:O} {ln lc:Nat} {fence settled quota room:Int} {A:O} {n cp:Nat} {S:Nat->Prop} (h:FoldAt w w B g m1 m2 os pA pn pc lA ln lc fence settled quota room) (ho:OpsIs w S A n cp xs) (hS:∀ b,S b->b≠g/\b≠m1/\b≠m2) (hfo:∀ o∈os,Fits o) (hfx:∀ o∈xs,Fits o) (hlen:os.length+xs.length<=100000) (hB:B<=w) :
 Calls prog 90 #[.pointer (some ⟨g,0,none⟩),.slice A n cp] w fun x w'=>x=.returned (.tuple #[])/\FoldAt w w' B g m1 m2 (os++xs) pA pn pc lA ln lc fence settled quota room:=by
 have hxl:=ho.len
 obtain⟨HF,HO⟩:=J2 h ho
 have round:∀ (Q:Z) (hexit:∀ a' w',a'.defers=[]->a'.tmps.size=73->FoldAt w w' B g m1 m2 (os++xs) pA pn pc lA ln lc fence settled quota room->Q (.exit 0) a' w')
  (a:Act) (w1:World),TkI w B g m1 m2 os xs pA pn pc lA ln lc fence settled quota room A n cp a w1->(∀ a' w',TkI w B g m1 m2 os xs pA pn pc lA ln lc fence settled quota room A n cp a' w'/\muTk n a'<muTk n a->Q .normal a' w')->(part [1,0,0] (codeOf takeFF)).wp prog Q a w1:=by
  intro Q hexit a w1 hI hQ
  obtain⟨k,hk,hf,hh⟩:=hI
  refine Ytaipgdhdfpemcaa.w2 ?_
  refine ft1 _ a hf fun a1 hf1=>?_
  show (part [1,0,0,1] (codeOf takeFF)).wp prog Q a1 w1
  refine Ytaipgdhdfpemcaa.w2 ?_
  refine wp_if (x:=part [1,0,0,1,0,0] (codeOf takeFF)) (y:=part [1,0,0,1,0,1] (codeOf takeFF)) (o:=.tmp 9) kr (eval_at hf1.2.2.2.2.2.2.1 rfl) (fun ht=>?_) fun ht=>?_
  ·have hk1:k<n:=of_decide_eq_true ht
   refine wp_nop kr ?_
   have hkept:Kept S w w1:=⟨hh.low.size,fun b s1 s2=>hh.others b s2 (hS b s1).1 (hS b s1).2.1 (hS b s1).2.2⟩
   obtain⟨ad,o,oA,on,oc,rfl,hab,hck,hop,hss⟩:=(HO.out.kept hkept).at_ hk1
   have hmem:=List.mem_of_getElem? hck
   have htk:os++xs.take (k+1)=(os++xs.take k)++[o]:=by rw [List.take_add_one,hck,List.append_assoc];rfl
   show (part [1,0,0,1,1] (codeOf takeFF)).wp prog Q a1 w1
   refine Ytaipgdhdfpemcaa.w2 ?_
   refine wp_blk (x:=part [1,0,0,1,1,0,0] (codeOf takeFF)) (id:=1) kr ?_
   refine ft_round _ a1 ⟨hf1.1,hf1.2.1,hf1.2.2.1,hf1.2.2.2.1,hf1.2.2.2.2.1,hf1.2.2.2.2.2.1,trivial⟩ hh hk1 hop (hfx o hmem) (fun o' ho'=>(List.mem_append.1 ho').elim (hfo o') fun h'=>hfx o' (List.mem_of_mem_take h')) (by rw [List.length_append,List.length_take];omega) hB fun a2 w2 hf2 h2=>?_
   have next:(part [1,0,0,1,1,1] (codeOf takeFF)).wp prog Q a2 w2:=by
    refine ft11 _ a2 hf2 (by omega) fun a3 hf3=>hQ a3 w2 ⟨⟨k+1,by omega,hf3,by rw [htk];exact h2⟩,?_⟩
    have e1:at_ a.tmps 8=.int .i64 (k:Nat):=hf.2.2.2.2.2.1
    have e2:at_ a3.tmps 8=.int .i64 ((k+1:Nat):Nat):=hf3.2.2.2.2.2.1
    unfold muTk
    rw [e1,e2]
    exact Y114
   exact⟨next,next⟩
  ·have hk1:¬ k<n:=of_decide_eq_false ht
   have e:part [1,0,0,1,0,1] (codeOf takeFF)=Code.exit 0:=by kernel_rfl
   rw [e]
   have hx:xs.take k=xs:=List.take_of_length_le (by omega)
   rw [hx] at hh
   exact wp_exit (hexit a1 w1 hf1.1 hf1.2.1 hh)
 obtain⟨HR,HX⟩:=J2 round hxl
 clear round h ho hS hfo hfx hlen hB hxl
 go_enter func90,ntmps90
 conv=>arg 2;arg 2;change part [1] (codeOf takeFF)
 go_wp2_with fail
 refine wp_blk (x:=part [1,0] (codeOf takeFF)) (id:=0) kr ?_
 have el:part [1,0] (codeOf takeFF)=Code.loop (part [1,0,0] (codeOf takeFF)):=by kernel_rfl
 rw [el]
 refine wp_loop (TkI w B g m1 m2 os xs pA pn pc lA ln lc fence settled quota room A n cp) (fun a _=>muTk n a) ⟨0,Nat.zero_le _,ff,by rw [List.take_zero,List.append_nil];exact HF.out⟩ fun a2 w2 hI=>?_
 refine HR.out _ ?_ a2 w2 hI ?_
 ·intro a' w' hd hs hh
  have hp:bodyPost prog takeFF (fun x w'=>x=.returned (.tuple #[])/\FoldAt w w' B g m1 m2 (os++xs) pA pn pc lA ln lc fence settled quota room) .normal a' w':=bodyPost_end (results_none rfl _ _ _) hd ⟨rfl,hh⟩
  exact hp
 ·exact fun a' w' hh=>hh
end Go.Proofs.Ytaipgdhdfpemcaa
