/- THE WALKS OF THE LANE, part 3. -/
import Derived.Test.YtaipgdhdfpemcaaRows
import Derived.Test.YtaipgdhdfpemcaaG2
namespace Go.Proofs.Ytaipgdhdfpemcaa
set_option linter.all false
open Go.RowKit Go.Proofs.Try
set_option maxRecDepth 100000
set_option maxHeartbeats 4000000
section
open Go.ChangeShapes Go.WideShapes Go.ChangeAt Go.RowKit Go.Deep
def Small {H:Type} (P:Program) (t:TypeId) (d:DataW H):Prop:=∀ n∈d.weights P t,n<=140737488351232
def Rd (H:Type) (enc:TypeId×Value->H) (P:Program) (w:World) (t:TypeId) (cs:List Value):Prop:=
 ∃ fuel d pl,DataW.trod enc P w 0 (fun _=>true) true fuel t cs=some (d,pl)/\Small P t d
theorem flat_one {α:Type} (f:α->Value) (l:List α):(l.map fun s=>[f s]).flatten=l.map f:=by
 induction l with
 | nil=>rfl
 | cons a l ih=>simp [ih]
section
variable {H:Type} {enc:TypeId×Value->H} {P:Program} {w:World} {t:TypeId} {cs:List Value}
section
variable {a:Addr} {fs:Array Field} {d:DataW H} {k:IntKind} {ds:List (DataW H)} {p:List MemPlace} {ts:List TypeId} {bytes j len n size:Nat} {A:O} {α:Type} {e:TypeId} {v:Value}
theorem Rd.int (ht:P.underlying t=some (.int k)) (h:Rd H enc P w t cs):∃ n,cs=[.int k n]/\(Lit.int k n).wf=true:=by
 obtain⟨f,d,pl,h,_⟩:=h
 obtain⟨n,h1,_,h2⟩:=DataW.trod_int ht h
 exact⟨n,h1,h2⟩
theorem Rd.i64 (ht:P.underlying t=some (.int .i64)) (h:Rd H enc P w t cs):∃ n:Int,cs=[.int .i64 n]/\-9223372036854775808<=n/\n<=9223372036854775807:=by
 obtain⟨n,h1,h2⟩:=h.int ht
 exact⟨n,h1,i64_of_wf h2⟩
theorem Rd.bool (ht:P.underlying t=some .bool) (h:Rd H enc P w t cs):∃ b,cs=[.bool b]:=by
 obtain⟨f,d,pl,h,_⟩:=h
 obtain⟨n,h1,_⟩:=DataW.trod_bool ht h
 exact⟨n,h1⟩
theorem Rd.string (ht:P.underlying t=some .string) (h:Rd H enc P w t cs):∃ s:ByteArray,cs=[.string s]/\s.size<=140737488351232:=by
 obtain⟨f,d,pl,h,hz⟩:=h
 obtain⟨s,h1,h2,_⟩:=DataW.trod_string ht h
 injection h2 with h2 _
 subst h2
 refine⟨s,h1,?_⟩
 have:=hz s.data.toList.length (by simp [DataW.weights])
 simpa using this
theorem weights_all_mem {H:Type} {P:Program} {l:List (DataW H)} {d:DataW H} (hd:d∈l):∀ n∈d.weights P e,n∈DataW.weightsAll P e l:=by
 induction l with
 | nil=>cases hd
 | cons x l ih=>
  intro n hn
  simp only [DataW.weightsAll,List.mem_append]
  rcases List.mem_cons.1 hd with rfl|hd
  ·exact .inl hn
  ·exact .inr (ih hd n hn)
theorem Rd.struct_ (ht:P.underlying t=some (.struct fs)) (h:Rd H enc P w t cs) :
 cs.length=P.cellsOf t/\∀ (i:Nat) (f:Field),fs[i]? = some f->Rd H enc P w f.type ((cs.drop f.offset).take (P.cellsOf f.type)):=by
 obtain⟨fu,d,pl,h,hz⟩:=h
 obtain⟨xs,n,_,hx,hl,hlen,hf⟩:=DataW.trod_struct ht h
 injection hx with hd hp
 refine⟨hl,fun i f hi=>?_⟩
 have h1:=hf i f hi
 have hil:i<xs.length:=by rw [hlen];exact (Array.getElem?_eq_some_iff.1 hi).1
 rw [List.getElem?_eq_getElem hil] at h1
 refine⟨n,xs[i].1,xs[i].2,h1,fun m hm=>hz m ?_⟩
 rw [hd]
 simp only [DataW.weights,ht]
 exact DataW.weights_mem_each (j:=i) (t:=f.type) (d:=xs[i].1) (by simp [hi]) (by simp [hil]) m hm
theorem Rd.slice (ht:P.underlying t=some (.slice e)) (h:Rd H enc P w t cs) :
 ∃ A len cap,cs=[.slice A len cap]/\len<=cap/\cap<=maxLen/\cap*P.bytesOf e<=140737488351232/\(A=none->cap=0)/\
  ∀ i,i<cap->∃ ad cs',A=some ad/\w.cells? 0 (ad.add (i*P.cellsOf e)) (P.cellsOf e)=some cs'/\Rd H enc P w e cs':=by
 obtain⟨fu,d,pl,h,hz⟩:=h
 rcases open_slice ht h with ⟨h0,_⟩|⟨a,len,cap,m,n,D,Pl,hcs,hb,hl,hm,hmm,hx,hi⟩
 ·exact⟨none,0,0,h0,Nat.le_refl _,Nat.zero_le _,by omega,fun _=>rfl,fun i hi=>absurd hi (by omega)⟩
 ·simp only [if_true] at hmm
  subst hmm
  injection hx with hd hp
  subst hd
  have hw:∀ x∈DataW.weights P t (.slice ((List.range len).map D) ((List.range (m-len)).map fun j=>D (len+j)):DataW H),x<=140737488351232:=hz
  simp only [DataW.weights,ht] at hw
  refine⟨some a,len,m,hcs,hl,hm,?_,(fun h=>by cases h),fun i him=>?_⟩
  ·have:=hw _ (List.mem_cons_self ..)
   simp only [List.length_map,List.length_range] at this
   rwa [Nat.add_sub_cancel' hl] at this
  ·obtain⟨cs',h1,h2⟩:=hi i him
   refine⟨a,cs',rfl,h1,n,D i,Pl i,h2,fun x hx=>hw x ?_⟩
   refine List.mem_cons_of_mem _ (List.mem_append.2 ?_)
   by_cases hil:i<len
   ·exact .inl (weights_all_mem (List.mem_map.2 ⟨i,List.mem_range.2 hil,rfl⟩) x hx)
   ·exact .inr (weights_all_mem (List.mem_map.2 ⟨i-len,List.mem_range.2 (by omega),by rw [Nat.add_sub_cancel' (by omega)]⟩) x hx)
theorem rd_of_trod (h:DataW.Trod enc P w 0 (fun _=>true) true t v d p) (hz:(DataW.weightsEach P ts ds).all (·<=reachBytes)=true) (ht:ts[j]? = some t) (hd:ds[j]? = some d):Rd H enc P w t v.cells.toList:=by
 obtain⟨fuel,hf⟩:=h
 refine⟨fuel,d,p,hf,fun n hn=>?_⟩
 have:=List.all_eq_true.1 hz n (DataW.weights_mem_each ht hd n hn)
 exact of_decide_eq_true this
theorem cells_at {cs:List Value} (h:w.cells? 0 a n=some cs):cs.length=n/\∀ j,j<n->w.cell? (a.add j)=cs[j]?:=by
 obtain⟨_,h1,h2⟩:=World.cells?_some h
 exact⟨h1,h2⟩
theorem reads_of (xs:List (List Value)) (hl:xs.length=len) (hs:0<size) (h:∀ i,i<len->∃ ad cs',A=some ad/\w.cells? 0 (ad.add (i*size)) size=some cs'/\xs[i]? = some cs'):Reads w w.heap.size size A len xs.flatten:=by
 have hx:∀ x∈xs,x.length=size:=by
  intro x hx
  obtain⟨i,hi,rfl⟩:=List.mem_iff_getElem.1 hx
  obtain⟨ad,cs',_,h1,h2⟩:=h i (by omega)
  rw [List.getElem?_eq_getElem hi] at h2
  injection h2 with h2
  rw [h2]
  exact (cells_at h1).1
 have hfl:∀ (l:List (List Value)),(∀ x∈l,x.length=size)->l.flatten.length=l.length*size:=by
  intro l hl
  induction l with
  | nil=>simp
  | cons a l ih=>simp only [List.flatten_cons,List.length_append,List.length_cons,ih fun x hx=>hl x (List.mem_cons_of_mem _ hx),hl a (List.mem_cons_self ..)];rw [Nat.succ_mul];omega
 refine⟨by rw [hfl xs hx,hl],fun hn=>?_⟩
 obtain⟨ad,c0,rfl,hc0,_⟩:=h 0 hn
 refine⟨ad,rfl,?_,fun j u hu=>?_⟩
 ·obtain⟨h1,h2⟩:=cells_at hc0
  have h3:=h2 0 hs
  rw [List.getElem?_eq_getElem (by omega)] at h3
  have:=block_lt h3
  rwa [block_of_add,block_of_add] at this
 ·have hj : j < len * size := by
   have:=(List.getElem?_eq_some_iff.1 hu).1
   rw [hfl xs hx,hl] at this
   exact this
  have hdiv:j / size<len:=by rw [Nat.div_lt_iff_lt_mul hs];exact hj
  obtain⟨ad',cs',e,h1,h2⟩:=h (j / size) hdiv
  injection e with e
  subst e
  obtain⟨h3,h4⟩:=cells_at h1
  have hmod:=Nat.mod_lt j hs
  have h5:=h4 (j % size) hmod
  rw [add_of_add,Nat.mul_comm,Nat.div_add_mod] at h5
  rw [h5]
  have hg:∀ (l:List (List Value)) (q r:Nat) (c:List Value),(∀ x∈l,x.length=size)->l[q]? = some c->r<size->l.flatten[size*q+r]? = c[r]?:=by
   intro l
   induction l with
   | nil=>intro q r c _ hq;simp at hq
   | cons a l ih=>
    intro q r c hl hq hr
    have ha:=hl a (List.mem_cons_self ..)
    rcases q with _|q
    ·simp only [List.getElem?_cons_zero,Option.some.injEq] at hq
     subst hq
     rw [List.flatten_cons,Nat.mul_zero,Nat.zero_add,List.getElem?_append_left (by omega)]
    ·rw [List.flatten_cons,List.getElem?_append_right (by rw [Nat.mul_succ];omega),ha,show size*(q+1)+r-size=size*q+r by rw [Nat.mul_succ];omega]
     exact ih q r c (fun x hx=>hl x (List.mem_cons_of_mem _ hx)) (by simpa using hq) hr
  have:=hg xs (j / size) (j % size) cs' hx h2 hmod
  rw [Nat.div_add_mod,hu] at this
  exact this.symm
section
variable (ht:P.underlying t=some (.slice e))
include ht
theorem Rd.strings (he:P.underlying e=some .string) (hc:P.cellsOf e=1) (hb:P.bytesOf e=16) (h:Rd H enc P w t cs) :
 ∃ A n c ss,cs=[.slice A n c]/\Reads w w.heap.size 1 A n (strV ss)/\ss.length=n/\n<=c/\c*16<=140737488351232/\(A=none->c=0):=by
 obtain⟨A,len,cap,rfl,hl,hm,hz,hA,hi⟩:=h.slice ht
 rw [hc] at hi
 rw [hb] at hz
 have hex:∀ i,i<len->∃ s:ByteArray,∃ ad,A=some ad/\w.cells? 0 (ad.add (i*1)) 1=some [.string s]:=fun i hil=>by
  obtain⟨ad,cs',hA,h1,h2⟩:=hi i (by omega)
  obtain⟨s,rfl,_⟩:=h2.string he
  exact⟨s,ad,hA,h1⟩
 have hch:∃ ss:List ByteArray,ss.length=len/\∀ i,i<len->∃ s,ss[i]? = some s/\∃ ad,A=some ad/\w.cells? 0 (ad.add (i*1)) 1=some [.string s]:=by
  exact Y46
 obtain⟨ss,h1,h2⟩:=hch
 refine⟨A,len,cap,ss,rfl,?_,h1,hl,hz,hA⟩
 have:=reads_of (w:=w) (size:=1) (len:=len) (A:=A) (ss.map fun s=>[.string s]) (by simp [h1]) (by omega) fun i hil=>by
  obtain⟨s,h3,ad,h4,h5⟩:=h2 i hil
  exact⟨ad,_,h4,h5,by simp [h3]⟩
 rwa [flat_one] at this
theorem Rd.ints (he:P.underlying e=some (.int .i64)) (hc:P.cellsOf e=1) (hb:P.bytesOf e=8) (h:Rd H enc P w t cs) :
 ∃ A n c zs,cs=[.slice A n c]/\Reads w w.heap.size 1 A n (intV .i64 zs)/\zs.length=n/\n<=c/\c*8<=140737488351232/\(A=none->c=0)/\∀ z∈zs,-9223372036854775808<=z/\z<=9223372036854775807:=by
 obtain⟨A,len,cap,rfl,hl,hm,hz,hA,hi⟩:=h.slice ht
 rw [hc] at hi
 rw [hb] at hz
 have hex:∀ i,i<len->∃ s:Int,(-9223372036854775808<=s/\s<=9223372036854775807)/\∃ ad,A=some ad/\w.cells? 0 (ad.add (i*1)) 1=some [.int .i64 s]:=fun i hil=>by
  obtain⟨ad,cs',hA,h1,h2⟩:=hi i (by omega)
  obtain⟨s,rfl,hs⟩:=h2.i64 he
  exact⟨s,hs,ad,hA,h1⟩
 have hch:∃ ss:List Int,ss.length=len/\∀ i,i<len->∃ s,ss[i]? = some s/\(-9223372036854775808<=s/\s<=9223372036854775807)/\∃ ad,A=some ad/\w.cells? 0 (ad.add (i*1)) 1=some [.int .i64 s]:=by
  exact Y46
 obtain⟨ss,h1,h2⟩:=hch
 refine⟨A,len,cap,ss,rfl,?_,h1,hl,hz,hA,fun z hz=>?_⟩
 ·have := reads_of (w := w) (size := 1) (len := len) (A := A) (ss.map fun s => [.int .i64 s]) (by simp [h1]) (by omega) fun i hil => by
   obtain⟨s,h3,_,ad,h4,h5⟩:=h2 i hil
   exact⟨ad,_,h4,h5,by simp [h3]⟩
  rwa [flat_one] at this
 ·obtain⟨i,hil,rfl⟩:=List.mem_iff_getElem.1 hz
  exact Y112
theorem Rd.list (hc:P.cellsOf e=size) (hb:P.bytesOf e=bytes) (hs:0<size) [Inhabited α] (cell:α->List Value) (R:α->Prop) (he:∀ cs',cs'.length=size->Rd H enc P w e cs'->∃ x,cs'=cell x/\R x) (h:Rd H enc P w t cs) :
 ∃ (A:O) (n c:Nat) (xs:List α),cs=[.slice A n c]/\Reads w w.heap.size size A n (xs.flatMap cell)/\xs.length=n/\n<=c/\c*bytes<=140737488351232/\(A=none->c=0)/\∀ x∈xs,R x:=by
 obtain⟨A,len,cap,rfl,hl,hm,hz,hA,hi⟩:=h.slice ht
 rw [hc] at hi
 rw [hb] at hz
 have hex:∀ i,i<len->∃ x:α,R x/\∃ ad,A=some ad/\w.cells? 0 (ad.add (i*size)) size=some (cell x):=fun i hil=>by
  obtain⟨ad,cs',hA,h1,h2⟩:=hi i (by omega)
  obtain⟨x,rfl,hx⟩:=he cs' (cells_at h1).1 h2
  exact⟨x,hx,ad,hA,h1⟩
 have hch:∃ xs:List α,xs.length=len/\∀ i,i<len->∃ x,xs[i]? = some x/\R x/\∃ ad,A=some ad/\w.cells? 0 (ad.add (i*size)) size=some (cell x):=by
  exact Y46
 obtain⟨xs,h1,h2⟩:=hch
 refine⟨A,len,cap,xs,rfl,?_,h1,hl,hz,hA,fun z hz=>?_⟩
 ·have := reads_of (w := w) (size := size) (len := len) (A := A) (xs.map cell) (by simp [h1]) hs fun i hil => by
   obtain⟨s,h3,_,ad,h4,h5⟩:=h2 i hil
   exact⟨ad,_,h4,h5,by simp [h3]⟩
  rwa [<-List.flatMap_def] at this
 ·obtain⟨i,hil,rfl⟩:=List.mem_iff_getElem.1 hz
  exact Y112
end
end
end
end
def dstAt (ops:Array Oper) (i:Nat):Option Tmp:=(ops[i]?).bind (·.dst)
def putU (ops:Array Oper) (a:Act) (U:Nat->Value):Nat->Act
 | 0=>a
 | n+1=>(putU ops a U n).put (dstAt ops n) (U n)
def updU (U:Nat->Value) (i:Nat) (v:Value):Nat->Value:=fun j=>if j=i then v else U j
section
variable {P:Program} {ops:Array Oper} {a:Act} {U:Nat->Value}
section
variable {U':Nat->Value}
theorem put_put_same (a:Act) (d:Option Tmp) (v u:Value):(a.put d v).put d u=a.put d u:=by
 cases d with
 | none=>rfl
 | some d=>simp [Act.put,Array.setIfInBounds_setIfInBounds]
theorem putU_cong {U:Nat->Value} (n:Nat) (h:∀ j,j<n->U j=U' j):putU ops a U n=putU ops a U' n:=by
 induction n with
 | zero=>rfl
 | succ n ih=>
  unfold putU
  rw [ih (fun j hj=>h j (by omega)),h n (by omega)]
theorem putU_put (n i:Nat) (hi:i<n) (v:Value) (hd:∀ j k,j<n->k<n->∀ d,dstAt ops j=some d->dstAt ops k=some d->j=k) (hs:∀ j,j<n->(dstAt ops j).isSome=true) :
 (putU ops a U n).put (dstAt ops i) v=putU ops a (updU U i v) n:=by
 induction n with
 | zero=>omega
 | succ n ih=>
  unfold putU
  by_cases h:i=n
  ·subst h
   exact Y104
  ·have e:updU U i v n=U n:=by unfold updU;rw [if_neg (fun e=>h e.symm)]
   rw [e,<-ih (by omega) (fun j k hj hk=>hd j k (by omega) (by omega)) (fun j hj=>hs j (by omega))]
   exact Y129
theorem put_tmps_size (a:Act) (d:Option Tmp) (v:Value):(a.put d v).tmps.size=a.tmps.size:=by
 cases d<;>simp [Act.put]
theorem putU_size (n:Nat):(putU ops a U n).tmps.size=a.tmps.size:=by
 induction n with
 | zero=>rfl
 | succ n ih=>unfold putU;rw [put_tmps_size,ih]
theorem eval_put_same (a:Act) (t:Tmp) (v:Value) (h:t<a.tmps.size):(a.put (some t) v).eval (.tmp t)=v:=by
 simp [Act.put,Act.eval,h]
theorem putU_at (n:Nat) (hd:∀ j k,j<n->k<n->∀ d,dstAt ops j=some d->dstAt ops k=some d->j=k) (i:Nat) (hi:i<n) (t:Tmp) (ht:dstAt ops i=some t) (hsz:t<a.tmps.size) :
 (putU ops a U n).eval (.tmp t)=U i:=by
 induction n with
 | zero=>omega
 | succ n ih=>
  unfold putU
  by_cases h:i=n
  ·subst h
   rw [ht,eval_put_same _ _ _ (by rw [putU_size];exact hsz)]
  ·rw [Act.eval_put (fun d hdn e=>?_)]
   ·exact ih (fun j k hj hk=>hd j k (by omega) (by omega)) (by omega)
   ·injection e with e
    subst e
    exact h (hd i n (by omega) (by omega) t ht hdn)
theorem putU_off (n:Nat) (t:Tmp) (h:∀ j,j<n->dstAt ops j≠some t):(putU ops a U n).eval (.tmp t)=a.eval (.tmp t):=by
 induction n with
 | zero=>rfl
 | succ n ih=>
  unfold putU
  rw [Act.eval_put (fun d hdn e=>?_)]
  ·exact ih fun j hj=>h j (by omega)
  ·injection e with e
   subst e
   exact h n (by omega) hdn
theorem putU_self (n:Nat) (hs:∀ j,j<n->∀ d,dstAt ops j=some d->d<a.tmps.size):∃ U,putU ops a U n=a:=by
 refine⟨fun j=>match dstAt ops j with|some d=>a.eval (.tmp d)|none=>undef,?_⟩
 induction n with
 | zero=>rfl
 | succ n ih=>
  unfold putU
  rw [ih fun j hj=>hs j (by omega)]
  cases hd:dstAt ops n with
  | none=>rfl
  | some d=>
   have hlt:=hs n (by omega) d hd
   show ({a with tmps:=a.tmps.setIfInBounds d (a.tmps.getD d undef)}:Act)=a
   have:a.tmps.setIfInBounds d (a.tmps.getD d undef)=a.tmps:=by
    apply Array.ext_getElem?
    intro j
    by_cases hj:d=j
    ·subst hj
     rw [Array.getElem?_setIfInBounds_self_of_lt hlt]
     simp [hlt]
    ·rw [Array.getElem?_setIfInBounds_ne hj]
   rw [this]
end
end
section
variable {l:Array Bool} {ops:Array Oper} {i:Nat} {md:Region.Mode}
theorem ready_spec (h:i∈Region.ready md ops l) :
 ∃ o,ops[i]? = some o/\l.getD i true=false/\∀ e∈o.after,Region.binds md e=true->l.getD e.on false=true:=by
 simp only [Region.ready,List.mem_filter,List.mem_range,Bool.and_eq_true,Bool.not_eq_true'] at h
 obtain⟨hi,hl,ha⟩:=h
 cases ho:ops[i]? with
 | none=>rw [Array.getElem?_eq_none_iff] at ho;omega
 | some o=>
  rw [ho] at ha
  simp only [Option.map_some,Option.getD_some,Array.all_eq_true_iff_forall_mem,Bool.or_eq_true,Bool.not_eq_true'] at ha
  exact⟨o,rfl,hl,fun e he hb=>(ha e he).resolve_left (by rw [hb];simp)⟩
theorem ready_some (hl:l.size=ops.size) (hback:∀ i o,ops[i]? = some o->∀ e∈o.after,Region.binds .any e=true->e.on<i) (h:Region.ready .any ops l=[]):∀ i,i<ops.size->l.getD i false=true:=by
 intro i
 induction i using Nat.strongRecOn with
 | _ i ih=>
  intro hi
  cases hb:l.getD i false with
  | true=>rfl
  | false=>
   have hli:i<l.size:=by omega
   have hlt:l.getD i true=false:=by
    have e:∀ b,l.getD i b=l[i]:=fun b=>by simp [Array.getD,hli]
    rw [e] at hb ⊢
    exact hb
   have:i∈Region.ready .any ops l:=by
    simp only [Region.ready,List.mem_filter,List.mem_range,Bool.and_eq_true,Bool.not_eq_true']
    refine⟨hi,hlt,?_⟩
    rw [Array.getElem?_eq_getElem hi]
    simp only [Option.map_some,Option.getD_some,Array.all_eq_true_iff_forall_mem,Bool.or_eq_true,Bool.not_eq_true']
    intro e he
    cases hbe:Region.binds .any e with
    | false=>exact Or.inl rfl
    | true=>
     have hlt:=hback i ops[i] (Array.getElem?_eq_getElem hi) e he hbe
     exact Or.inr (ih e.on hlt (by omega))
   rw [h] at this
   cases this
end
def drawOk (ops:Array Oper) (n:Nat):Bool:=
 ((List.range ops.size).all fun j=>match dstAt ops j with|some d=>decide (d<n)|none=>false)&&
 ((List.range ops.size).all fun j=>(List.range ops.size).all fun k=>dstAt ops j != dstAt ops k||j==k)&&
 ((List.range ops.size).all fun i=>match ops[i]? with|some o=>o.guard.isNone&&o.after.all (fun e=>!Region.binds .any e||decide (e.on<i))|none=>true)
section
variable {a:Act} {ops:Array Oper} {id n:Nat} {P:Program} {α:Type} {w:World} {Q:Z} {x:α} {p q:α->Bool}
theorem drawOk_spec (h:drawOk ops n=true) :
 (∀ j,j<ops.size->∃ d,dstAt ops j=some d/\d<n)/\(∀ j k,j<ops.size->k<ops.size->dstAt ops j=dstAt ops k->j=k)/\
 (∀ i o,ops[i]? = some o->o.guard=none/\∀ e∈o.after,Region.binds .any e=true->e.on<i):=by
 simp only [drawOk,Bool.and_eq_true] at h
 obtain⟨⟨h1,h2⟩,h3⟩:=h
 refine⟨fun j hj=>?_,fun j k hj hk e=>?_,fun i o ho=>?_⟩
 ·have:=List.all_eq_true.1 h1 j (List.mem_range.2 hj)
  cases hd:dstAt ops j with
  | none=>rw [hd] at this;cases this
  | some d=>rw [hd] at this;exact⟨d,rfl,of_decide_eq_true this⟩
 ·have:=List.all_eq_true.1 (List.all_eq_true.1 h2 j (List.mem_range.2 hj)) k (List.mem_range.2 hk)
  simp only [Bool.or_eq_true,bne_iff_ne,ne_eq,beq_iff_eq] at this
  exact this.resolve_left fun h=>h e
 ·have hi : i < ops.size := by
   exact Y142
  exact Y58
theorem filter_le:∀ (l:List α),(∀ x∈l,p x=true->q x=true)->(l.filter p).length<=(l.filter q).length
 | [],_=>Nat.le_refl _
 | x::l,h=>by
  have ih:=filter_le l fun y hy=>h y (List.mem_cons_of_mem _ hy)
  have hx:=h x (List.mem_cons_self ..)
  simp only [List.filter_cons]
  cases hp:p x
  ·cases q x<;>simp<;>omega
  ·rw [hx hp];simp;omega
theorem filter_lt:∀ {l:List α},x∈l->q x=true->p x=false->(∀ y∈l,p y=true->q y=true)->(l.filter p).length<(l.filter q).length
 | y::l,hx,hq,hp,h=>by
  have hl:∀ z∈l,p z=true->q z=true:=fun z hz=>h z (List.mem_cons_of_mem _ hz)
  simp only [List.filter_cons]
  rcases List.mem_cons.1 hx with rfl|hx
  ·have:=filter_le l hl
   rw [hq,hp];simp;omega
  ·have ih:=filter_lt hx hq hp hl
   have hy:=h y (List.mem_cons_self ..)
   cases hpy:p y
   ·cases q y<;>simp<;>omega
   ·rw [hy hpy];simp;omega
theorem wp_region_yields (hm:P.follows .mixedOrders=true) (V:Nat->Value->World->Prop) (G:World->Prop) (Ext:World->World->Prop) (hsz':drawOk ops a.tmps.size=true) (hG:G {w with drawn:=w.drawn+1}) (hmono:∀ i v W W',Ext W W'->V i v W->V i v W') (hstep:∀ (i:Nat) (o:Oper) (F:Act) (U:Nat->Value) (W:World),ops[i]? = some o->G W->(∀ (j:Nat) (t:Tmp),j<ops.size->dstAt ops j=some t->F.eval (.tmp t)=U j)->(∀ t:Tmp,(∀ j,j<ops.size->dstAt ops j≠some t)->F.eval (.tmp t)=a.eval (.tmp t))->(∀ e∈o.after,Region.binds .any e=true->V e.on (U e.on) W)->o.wp P F W (fun a' W'=>∃ v,a'=F.put o.dst v/\V i v W'/\G W'/\Ext W W') Q) (hend:∀ (U:Nat->Value) (W:World),G W->(∀ i,i<ops.size->V i (U i) W)->Q .normal (putU ops a U ops.size) W):(Code.region id ops true).wp P Q a w:=by
 refine wp_region_any hm ?_
 obtain⟨hsz,hd,hback⟩:=drawOk_spec hsz'
 have hd':∀ j k,j<ops.size->k<ops.size->∀ d,dstAt ops j=some d->dstAt ops k=some d->j=k:=fun j k hj hk d h1 h2=>hd j k hj hk (h1.trans h2.symm)
 have hs':∀ j,j<ops.size->(dstAt ops j).isSome=true:=fun j hj=>by obtain⟨d,h,_⟩:=hsz j hj;rw [h];rfl
 have main:∀ (fuel:Nat) (l:Array Bool) (U:Nat->Value) (W:World),l.size=ops.size->G W->(∀ i,i<ops.size->l.getD i false=true->V i (U i) W)->
  ((List.range ops.size).filter fun i=>!l.getD i false).length<=fuel->wpAny P .any ops Q fuel l (putU ops a U ops.size) W:=by
  intro fuel
  induction fuel with
  | zero=>
   intro l U W hl hGW hV hf
   exact Y5
  | succ fuel ih=>
   intro l U W hl hGW hV hf
   refine⟨fun hr=>hend U W hGW fun i hi=>hV i hi (ready_some hl (fun i o ho=>(hback i o ho).2) hr i hi),fun i hi=>?_⟩
   obtain⟨o,ho,hln,hpre⟩:=ready_spec hi
   have hio:i<ops.size:=by
    exact Y142
   have hil:i<l.size:=by omega
   have hlf:l.getD i false=false:=by
    exact Y86
   obtain⟨hg,hb⟩:=hback i o ho
   unfold wpOp
   rw [ho]
   have hw:Region.wanted o (yielded ops (putU ops a U ops.size).tmps)=true:=by simp [Region.wanted,hg]
   simp only [hw,if_true]
   left
   refine Oper.wp_mono ?_ (hstep i o (putU ops a U ops.size) U W ho hGW ?_ ?_ ?_)
   ·rintro a' W' ⟨v,rfl,hv,hG',hx⟩
    have hdo:o.dst=dstAt ops i:=by unfold dstAt;rw [ho];rfl
    rw [hdo,putU_put ops.size i hio v hd' hs']
    exact Y153
   ·intro j t hj ht
    obtain⟨d,hd1,hd2⟩:=hsz j hj
    rw [ht] at hd1
    injection hd1 with hd1
    subst hd1
    exact putU_at ops.size hd' j hj t ht hd2
   ·intro t ht
    exact putU_off ops.size t ht
   ·intro e he hbe
    have hlt:=hb e he hbe
    exact hV e.on (by omega) (hpre e he hbe)
 obtain⟨U,hU⟩:=putU_self (ops:=ops) (a:=a) ops.size fun j hj d hjd=>by
  obtain⟨d',h1,h2⟩:=hsz j hj
  rw [hjd] at h1
  injection h1 with h1
  subst h1
  exact h2
 exact Y35
end
section
variable {P:Program} {o:Oper} {F:Act} {W:World} {K:Act->World->Prop} {Q:Z}
section
variable {t:Tmp} {u:Value}
theorem act_tmp {F:Act} (h:F.eval (.tmp t)=u):F.tmps[t]?.getD undef=u:=by simpa [Act.eval] using h
theorem wp_move' (x:Operand) (h:o.op=.move x) (hk:K (F.put o.dst (F.eval x)) W):o.wp P F W K Q:=by
 unfold Oper.wp execOp;rw [h];exact hk
theorem wp_assign' (x:Operand) (h:o.op=.assign x) (hk:K (F.put o.dst (F.eval x)) W):o.wp P F W K Q:=by
 unfold Oper.wp execOp;rw [h];exact hk
theorem wp_value' (v:Value) (W':World) (h:(execOp F.eval o).run P W=.ok (.value v) W') (hk:K (F.put o.dst v) W'):o.wp P F W K Q:=by
 unfold Oper.wp
 rw [h]
 exact hk
theorem wp_enter' (f:FuncId) (args:Array Value) (h:(execOp F.eval o).run P W=.ok (.enter f args) W) (hc:Calls P f args W fun e W'=>∃ v,e=.returned v/\K (F.put o.dst v) W'):o.wp P F W K Q:=by
 unfold Oper.wp
 rw [h,Oper.upon_enter]
 refine hc.mono ?_
 rintro e W' ⟨v,rfl,hk⟩
 exact hk
end
end
section
variable {o:Oper} {x0 x1 x10 x11 x12 x13 x14 x15 x16 x2 x3 x4 x5 x6 x7 x8 x9:Value}
theorem load_mail (p:Tmp) (hop:o.op=.load 30 (.tmp p)) (F:Act) (W:World) (b:Nat) (hp:F.eval (.tmp p)=.pointer (some ⟨b,0,none⟩)) (hbk:Blk W b 30 #[x0,x1,x2,x3,x4,x5,x6,x7,x8,x9,x10,x11,x12,x13,x14,x15,x16]) :
 (execOp F.eval o).run prog W=.ok (.value (.agg #[x0,x1,x2,x3,x4,x5,x6,x7,x8,x9,x10,x11,x12,x13,x14,x15,x16])) W:=by
 obtain⟨d0,d1,d2,d3,d4,d5,d6,d7,d8,d9,d10,d11,d12,d13,d14,d15,d16⟩:=hbk.cs 0 17
 clear hbk
 have hp2:=act_tmp hp
 unfold execOp
 rw [hop]
 go_simp
theorem load_cmd (p:Tmp) (hop:o.op=.load 47 (.tmp p)) (F:Act) (W:World) (b:Nat) (hp:F.eval (.tmp p)=.pointer (some ⟨b,0,none⟩)) (hbk:Blk W b 47 #[x0,x1,x2,x3,x4,x5,x6,x7,x8,x9,x10,x11,x12,x13,x14,x15]) :
 (execOp F.eval o).run prog W=.ok (.value (.agg #[x0,x1,x2,x3,x4,x5,x6,x7,x8,x9,x10,x11,x12,x13,x14,x15])) W:=by
 obtain⟨d0,d1,d2,d3,d4,d5,d6,d7,d8,d9,d10,d11,d12,d13,d14,d15⟩:=hbk.cs 0 16
 clear hbk
 have hp2:=act_tmp hp
 unfold execOp
 rw [hop]
 go_simp
end
end Go.Proofs.Ytaipgdhdfpemcaa
