/- THE WALKS OF THE LANE, part 7. -/
import Derived.Test.YtaipgdhdfpemcaaF5
import Derived.Test.YtaipgdhdfpemcaaF6
namespace Go.Proofs.Ytaipgdhdfpemcaa
set_option linter.all false
open Go.RowKit Go.Proofs.Try
set_option maxRecDepth 100000
set_option maxHeartbeats 4000000
section
variable {α:Type} {l:List α}
theorem len2 (h:l.length=2):∃ c0 c1,l=[c0,c1]:=by
 match l,h with
 | [c0,c1],_=>exact⟨c0,c1,rfl⟩
theorem len9 (h:l.length=9):∃ c0 c1 c2 c3 c4 c5 c6 c7 c8,l=[c0,c1,c2,c3,c4,c5,c6,c7,c8]:=by
 match l,h with
 | [c0,c1,c2,c3,c4,c5,c6,c7,c8],_=>exact⟨c0,c1,c2,c3,c4,c5,c6,c7,c8,rfl⟩
theorem len17 (h:l.length=17):∃ c0 c1 c2 c3 c4 c5 c6 c7 c8 c9 c10 c11 c12 c13 c14 c15 c16,l=[c0,c1,c2,c3,c4,c5,c6,c7,c8,c9,c10,c11,c12,c13,c14,c15,c16]:=by
 match l,h with
 | [c0,c1,c2,c3,c4,c5,c6,c7,c8,c9,c10,c11,c12,c13,c14,c15,c16],_=>exact⟨c0,c1,c2,c3,c4,c5,c6,c7,c8,c9,c10,c11,c12,c13,c14,c15,c16,rfl⟩
end
structure OpC where
 n:Int
 epoch:Int
 kind:Int
 site:Int
 client:Int
 seq:Int
 name:ByteArray
 size:Int
 hs:List ByteArray
 deriving Inhabited
def OpC.at_ (c:OpC) (A:O) (n cap:Nat):Opd:=⟨c.n,c.epoch,c.kind,c.site,c.client,c.seq,c.name,c.size,A,n,cap⟩
def I64 (x:Int):Prop:=-9223372036854775808<=x/\x<=9223372036854775807
structure OpC.Ok (c:OpC):Prop where
 n:I64 c.n
 epoch:I64 c.epoch
 kind:I64 c.kind
 site:I64 c.site
 client:I64 c.client
 seq:I64 c.seq
 name:c.name.size<=140737488351232
 size:I64 c.size
 hs:c.hs.length*16<=140737488351232
def Rs (w:World) (S:Nat->Prop) (size:Nat) (A:O) (n:Nat) (xs:List Value):Prop:=
 xs.length=n*size/\(0<n->∃ ad,A=some ad/\S ad.block/\ad.block<w/\∀ j u,xs[j]? = some u->w.cell? (ad.add j)=some u)
def Any:Nat->Prop:=fun _=>True
def From (lo:Nat):Nat->Prop:=fun b=>lo<=b
section
variable {w w':World} {S S':Nat->Prop} {size n:Nat} {A:O} {xs:List Value}
theorem Rs.reads (h:Rs w S size A n xs):Reads w w.heap.size size A n xs:=⟨h.1,fun hn=>by
 obtain⟨ad,h1,_,h2,h3⟩:=h.2 hn
 exact⟨ad,h1,h2,h3⟩⟩
theorem Rs.of (h:Reads w w.heap.size size A n xs) (hS:0<n->∀ ad,A=some ad->S ad.block):Rs w S size A n xs:=⟨h.1,fun hn=>by
 obtain⟨ad,h1,h2,h3⟩:=h.2 hn
 exact⟨ad,h1,hS hn ad h1,h2,h3⟩⟩
section
variable (h:Rs w S size A n xs)
include h
theorem Rs.keep (hs:w.heap.size<=w') (hk:∀ b,S b->b<w.heap.size->w'.heap[b]? = w.heap[b]?):Rs w' S size A n xs:=⟨h.1,fun hn=>by
 obtain⟨ad,h1,h2,h3,h4⟩:=h.2 hn
 refine⟨ad,h1,h2,Nat.lt_of_lt_of_le h3 hs,fun j u hu=>?_⟩
 rw [World.cell?_of_block (w:=w) (w':=w') (by rw [block_of_add];exact hk _ h2 h3)]
 exact h4 j u hu⟩
theorem Rs.mono (hi:∀ b,b<w.heap.size->S b->S' b):Rs w S' size A n xs:=⟨h.1,fun hn=>by
 obtain⟨ad,h1,h2,h3,h4⟩:=h.2 hn
 exact⟨ad,h1,hi _ h3 h2,h3,h4⟩⟩
theorem Rs.below (hb:Below w w w'):Rs w' S size A n xs:=h.keep hb.size fun b _ hlt=>hb.block b hlt
end
theorem Rs.nil_ (w:World) (S:Nat->Prop) (size:Nat) (A:O):Rs w S size A 0 []:=⟨by simp,fun h=>absurd h (by omega)⟩
end
def StrIs (w:World) (S:Nat->Prop) (A:O) (n cap:Nat) (ss:List ByteArray):Prop:=Rs w S 1 A n (strV ss)/\n<=cap/\cap<=maxLen
def OpIs (w:World) (S:Nat->Prop) (o:Opd) (c:OpC):Prop:=∃ A n cap,o=c.at_ A n cap/\StrIs w S A n cap c.hs
def OpsV (w:World) (S:Nat->Prop):List Opd->List OpC->Prop
 | [],[]=>True
 | o::os,c::cs=>OpIs w S o c/\OpsV w S os cs
 | _,_=>False
def OpsIs (w:World) (S:Nat->Prop) (A:O) (n cap:Nat) (cs:List OpC):Prop:=∃ os,Rs w S 9 A n (opsV os)/\OpsV w S os cs/\n<=cap/\cap<=maxLen
def Kept (S:Nat->Prop) (w w':World):Prop:=w.heap.size<=w'/\∀ b,S b->b<w.heap.size->w'.heap[b]? = w.heap[b]?
section
variable {S S':Nat->Prop} {row:Option Nat} {w w' w'':World}
theorem Kept.of (S:Nat->Prop) (h:Below w w w'):Kept S w w':=⟨h.size,fun b _ hb=>h.block b hb⟩
theorem Kept.refl (S:Nat->Prop) (w:World):Kept S w w:=⟨Nat.le_refl _,fun _ _ _=>rfl⟩
section
variable (h:Kept S w w')
include h
theorem Kept.trans (h':Kept S w' w''):Kept S w w'':=⟨Nat.le_trans h.1 h'.1,fun b h1 h2=>(h'.2 b h1 (Nat.lt_of_lt_of_le h2 h.1)).trans (h.2 b h1 h2)⟩
theorem Kept.below (hb:Below w'.heap.size w' w''):Kept S w w'':=h.trans (Kept.of S hb)
theorem Kept.alloc (o:Obj):Kept S w (w'.alloc o):=h.trans (Kept.of S ((Below.refl _ _).alloc (Nat.le_refl _) _))
theorem Kept.drewN (k:Nat):Kept S w (w'.drewN k):=h
theorem Kept.set_ (p:Addr) (hp:¬ S p.block\/w.heap.size<=p.block) (u:Value):Kept S w (w'.setCell p u):=
 ⟨by (have e:(w'.setCell p u).heap.size=w'.heap.size:=by simp);rw [e];exact h.1,fun b h1 h2=>(Below.heap_setCell w' p u b (by rintro rfl;rcases hp with h|h;exact h h1;omega)).trans (h.2 b h1 h2)⟩
theorem Kept.grown (hg:w'.grownBy w'' row) (hr:∀ k,row=some k->¬ S k\/w.heap.size<=k):Kept S w w'':=
 ⟨Nat.le_trans h.1 hg.size,fun b h1 h2=>(hg.block b (Nat.lt_of_lt_of_le h2 h.1) (fun e=>by rcases hr b e.symm with h|h;exact h h1;omega)).trans (h.2 b h1 h2)⟩
theorem Kept.mono (hi:∀ b,b<w.heap.size->S' b->S b):Kept S' w w':=⟨h.1,fun b h1 h2=>h.2 b (hi b h2 h1) h2⟩
end
end
section
variable {w w':World} {S S':Nat->Prop}
section
variable {ss:List ByteArray} {cs:List OpC} {os:List Opd} {cap k n:Nat} {D:Nat->Prop} {A:O} {c:OpC} {o:Opd} {R:World}
section
variable (h:StrIs w S A n cap ss)
include h
theorem StrIs.len:ss.length=n:=by
 have:=h.1.1;simpa [strV] using this
theorem StrIs.kept (hk:Kept S w w'):StrIs w' S A n cap ss:=⟨h.1.keep hk.1 hk.2,h.2⟩
theorem StrIs.below (hb:Below w w w'):StrIs w' S A n cap ss:=h.kept (Kept.of S hb)
theorem StrIs.mono (hi:∀ b,b<w.heap.size->S b->S' b):StrIs w S' A n cap ss:=⟨h.1.mono hi,h.2⟩
end
theorem OpIs.kept (h:OpIs w S o c) (hk:Kept S w w'):OpIs w' S o c:=by
 obtain⟨A,n,cap,h1,h2⟩:=h
 exact⟨A,n,cap,h1,h2.kept hk⟩
theorem OpIs.mono (h:OpIs w S o c) (hi:∀ b,b<w.heap.size->S b->S' b):OpIs w S' o c:=by
 obtain⟨A,n,cap,h1,h2⟩:=h
 exact⟨A,n,cap,h1,h2.mono hi⟩
theorem OpsV.len:∀ {os:List Opd} {cs:List OpC},OpsV w S os cs->os.length=cs.length
 | [],[],_=>rfl
 | _::_,_::_,h=>by rw [List.length_cons,List.length_cons,OpsV.len h.2]
 | [],_::_,h=>h.elim
 | _::_,[],h=>h.elim
theorem OpsV.imp (hi:∀ o c,OpIs w S o c->OpIs R D o c):∀ {os:List Opd} {cs:List OpC},OpsV w S os cs->OpsV R D os cs
 | [],[],_=>trivial
 | _::_,_::_,h=>⟨hi _ _ h.1,OpsV.imp hi h.2⟩
 | [],_::_,h=>h.elim
 | _::_,[],h=>h.elim
theorem OpsV.kept (h:OpsV w S os cs) (hk:Kept S w w'):OpsV w' S os cs:=h.imp fun _ _ x=>x.kept hk
theorem OpsV.mono (h:OpsV w S os cs) (hi:∀ b,b<w.heap.size->S b->S' b):OpsV w S' os cs:=h.imp fun _ _ x=>x.mono hi
theorem OpsV.get:∀ {os:List Opd} {cs:List OpC},OpsV w S os cs->∀ (k:Nat) (o:Opd),os[k]? = some o->∃ c,cs[k]? = some c/\OpIs w S o c
 | [],[],_,k,o,h=>by simp at h
 | a::os,c::cs,h,0,o,ho=>by
  simp only [List.getElem?_cons_zero,Option.some.injEq] at ho
  subst ho
  exact⟨c,rfl,h.1⟩
 | a::os,c::cs,h,k+1,o,ho=>OpsV.get h.2 k o (by simpa using ho)
 | [],_::_,h,_,_,_=>h.elim
 | _::_,[],h,_,_,_=>h.elim
theorem OpsV.snoc:∀ {os:List Opd} {cs:List OpC} {o:Opd} {c:OpC},OpsV w S os cs->OpIs w S o c->OpsV w S (os++[o]) (cs++[c])
 | [],[],_,_,_,h=>⟨h,trivial⟩
 | _::_,_::_,_,_,h,h'=>⟨h.1,OpsV.snoc h.2 h'⟩
 | [],_::_,_,_,h,_=>h.elim
 | _::_,[],_,_,h,_=>h.elim
theorem OpsV.take:∀ {os:List Opd} {cs:List OpC} (k:Nat),OpsV w S os cs->OpsV w S (os.take k) (cs.take k)
 | [],[],_,_=>by simp [OpsV]
 | _::_,_::_,0,_=>trivial
 | _::_,_::_,k+1,h=>⟨h.1,OpsV.take k h.2⟩
 | [],_::_,_,h=>h.elim
 | _::_,[],_,h=>h.elim
theorem OpsV.drop:∀ {os:List Opd} {cs:List OpC} (k:Nat),OpsV w S os cs->OpsV w S (os.drop k) (cs.drop k)
 | [],[],_,_=>by simp [OpsV]
 | _::_,_::_,0,h=>h
 | _::_,_::_,k+1,h=>OpsV.drop k h.2
 | [],_::_,_,h=>h.elim
 | _::_,[],_,h=>h.elim
theorem opsV_append (a b:List Opd):opsV (a++b)=opsV a++opsV b:=by simp [opsV]
theorem opsV_take (os:List Opd) (k:Nat) (h:k<=os.length):(opsV os).take (k*9)=opsV (os.take k):=by
 have e:opsV os=opsV (os.take k)++opsV (os.drop k):=by rw [<-opsV_append,List.take_append_drop]
 rw [e,List.take_append_of_le_length (by rw [opsV_len,List.length_take];omega),List.take_of_length_le (by rw [opsV_len,List.length_take];omega)]
theorem opsV_drop (os:List Opd) (k:Nat) (h:k<=os.length):(opsV os).drop (k*9)=opsV (os.drop k):=by
 have e:opsV os=opsV (os.take k)++opsV (os.drop k):=by rw [<-opsV_append,List.take_append_drop]
 have hl:(opsV (os.take k)).length=k*9:=by rw [opsV_len,List.length_take];omega
 rw [e,<-hl,List.drop_left]
section
variable (h:OpsIs w S A n cap cs)
include h
theorem OpsIs.kept (hk:Kept S w w'):OpsIs w' S A n cap cs:=by
 obtain⟨os,h1,h2,h3⟩:=h
 exact⟨os,h1.keep hk.1 hk.2,h2.kept hk,h3⟩
theorem OpsIs.below (hb:Below w w w'):OpsIs w' S A n cap cs:=h.kept (Kept.of S hb)
theorem OpsIs.mono (hi:∀ b,b<w.heap.size->S b->S' b):OpsIs w S' A n cap cs:=by
 obtain⟨os,h1,h2,h3⟩:=h
 exact⟨os,h1.mono hi,h2.mono hi,h3⟩
theorem OpsIs.len:cs.length=n:=by
 obtain⟨os,h1,h2,h3⟩:=h
 have:=h1.1
 rw [opsV_len,h2.len] at this
 omega
theorem OpsIs.at_ (hk:k<n) :
 ∃ ad c hA hn hc,A=some ad/\(ad.add (k*9)).block<w/\cs[k]? = some c/\OpAt w (ad.add (k*9)) (c.at_ hA hn hc)/\StrIs w S hA hn hc c.hs:=by
 have hl:=h.len
 obtain⟨os,h1,h2,h3⟩:=h
 obtain⟨ad,o,rfl,hb,ho,hop⟩:=op_at h1.reads hk
 obtain⟨c,hc,hA,hn,hcap,e,hs⟩:=h2.get k o ho
 subst e
 exact⟨ad,c,hA,hn,hcap,rfl,hb,hc,hop,hs⟩
end
theorem OpsIs.nil_ (w:World) (S:Nat->Prop) (A:O) (cap:Nat) (hc:cap<=maxLen):OpsIs w S A 0 cap []:=⟨[],Rs.nil_ _ _ _ _,trivial,Nat.zero_le _,hc⟩
end
end
def entV (es:List (Int×ByteArray)):List Value:=es.flatMap fun e=>[.int .i64 e.1,.string e.2]
theorem entV_len (es:List (Int×ByteArray)):(entV es).length=es.length*2:=by
 induction es with
 | nil=>rfl
 | cons a l ih=>simp only [entV,List.flatMap_cons,List.length_append,List.length_cons,List.length_nil] at ih ⊢;rw [ih];omega
theorem entV_one (es:List (Int×ByteArray)):∀ u∈entV es,u.oneCell'=true:=by
 intro u hu
 simp only [entV,List.mem_flatMap,List.mem_cons,List.not_mem_nil,or_false] at hu
 obtain⟨e,_,rfl|rfl⟩:=hu<;>rfl
structure MailC where
 kind:Int
 term:Int
 index:Int
 prev:Int
 commit:Int
 good:Bool
 ents:List (Int×ByteArray)
 data:ByteArray
 hs:List ByteArray
 epoch:Int
 site:Int
 atN:Int
 atE:Int
 whN:Int
 whE:Int
 holes:List Int
 ops:List OpC
structure MailC.Ok (m:MailC):Prop where
 kind:I64 m.kind
 term:I64 m.term
 index:I64 m.index
 prev:I64 m.prev
 commit:I64 m.commit
 ents:m.ents.length*24<=140737488351232
 data:m.data.size<=140737488351232
 hs:m.hs.length*16<=140737488351232
 epoch:I64 m.epoch
 site:I64 m.site
 atN:I64 m.atN
 atE:I64 m.atE
 whN:I64 m.whN
 whE:I64 m.whE
 holes:m.holes.length*8<=140737488351232
 hole:∀ z∈m.holes,I64 z
 ops:m.ops.length*96<=140737488351232
 op:∀ o∈m.ops,o.Ok
def IntIs (w:World) (S:Nat->Prop) (A:O) (n cap:Nat) (zs:List Int):Prop:=Rs w S 1 A n (intV .i64 zs)/\n<=cap/\cap<=maxLen
def EntIs (w:World) (S:Nat->Prop) (A:O) (n cap:Nat) (es:List (Int×ByteArray)):Prop:=Rs w S 2 A n (entV es)/\n<=cap/\cap<=maxLen
def MailIs (w:World) (S:Nat->Prop) (cells:Array Value) (m:MailC):Prop:=
 ∃ eA en ec hA hn hc oA on oc pA pn pc,cells=mailC m.kind m.term m.index m.prev m.commit m.good eA en ec m.data hA hn hc m.epoch m.site m.atN m.atE m.whN m.whE oA on oc pA pn pc/\
  EntIs w S eA en ec m.ents/\StrIs w S hA hn hc m.hs/\IntIs w S oA on oc m.holes/\OpsIs w S pA pn pc m.ops
section
variable {w w':World} {S S':Nat->Prop}
section
variable {cells:Array Value} {ss:List Int} {m:MailC} {cap n:Nat} {A:O}
section
variable (h:IntIs w S A n cap ss)
include h
theorem IntIs.kept (hk:Kept S w w'):IntIs w' S A n cap ss:=⟨h.1.keep hk.1 hk.2,h.2⟩
theorem IntIs.below (hb:Below w w w'):IntIs w' S A n cap ss:=h.kept (Kept.of S hb)
theorem IntIs.mono (hi:∀ b,b<w.heap.size->S b->S' b):IntIs w S' A n cap ss:=⟨h.1.mono hi,h.2⟩
theorem IntIs.len:ss.length=n:=ints_len h.1.reads
end
theorem EntIs.kept {ss:List (Int×ByteArray)} (h:EntIs w S A n cap ss) (hk:Kept S w w'):EntIs w' S A n cap ss:=⟨h.1.keep hk.1 hk.2,h.2⟩
theorem EntIs.below {ss:List (Int×ByteArray)} (h:EntIs w S A n cap ss) (hb:Below w w w'):EntIs w' S A n cap ss:=h.kept (Kept.of S hb)
theorem EntIs.mono {ss:List (Int×ByteArray)} (h:EntIs w S A n cap ss) (hi:∀ b,b<w.heap.size->S b->S' b):EntIs w S' A n cap ss:=⟨h.1.mono hi,h.2⟩
theorem EntIs.len {ss:List (Int×ByteArray)} (h:EntIs w S A n cap ss):ss.length=n:=by have:=h.1.1;rw [entV_len] at this;omega
section
variable (h:MailIs w S cells m)
include h
theorem MailIs.kept (hk:Kept S w w'):MailIs w' S cells m:=by
 obtain⟨eA,en,ec,hA,hn,hc,oA,on,oc,pA,pn,pc,h0,h1,h2,h3,h4⟩:=h
 exact⟨eA,en,ec,hA,hn,hc,oA,on,oc,pA,pn,pc,h0,h1.kept hk,h2.kept hk,h3.kept hk,h4.kept hk⟩
theorem MailIs.below (hb:Below w w w'):MailIs w' S cells m:=h.kept (Kept.of S hb)
theorem MailIs.mono (hi:∀ b,b<w.heap.size->S b->S' b):MailIs w S' cells m:=by
 obtain⟨eA,en,ec,hA,hn,hc,oA,on,oc,pA,pn,pc,h0,h1,h2,h3,h4⟩:=h
 exact⟨eA,en,ec,hA,hn,hc,oA,on,oc,pA,pn,pc,h0,h1.mono hi,h2.mono hi,h3.mono hi,h4.mono hi⟩
end
end
end
section
variable {H:Type} {enc:TypeId×Value->H} {w:World} {cs:List Value}
section
variable {fs:Array Field} {n off:Nat} {P:Program} {ty:TypeId}
theorem Try.cInt:prog.cellsOf 3=1:=by kernel_rfl
theorem Try.cStr:prog.cellsOf 9=1:=by kernel_rfl
theorem Try.cBool:prog.cellsOf 4=1:=by kernel_rfl
theorem Try.cSheet:prog.cellsOf 43=2:=by kernel_rfl
theorem Try.cSpot:prog.cellsOf 26=2:=by kernel_rfl
theorem Try.cEntry:prog.cellsOf 150=2:=by kernel_rfl
theorem Try.cOp:prog.cellsOf 45=9:=by kernel_rfl
theorem Try.cStrs:prog.cellsOf 24=1:=by kernel_rfl
theorem Try.cInts:prog.cellsOf 27=1:=by kernel_rfl
theorem Try.cEnts:prog.cellsOf 23=1:=by kernel_rfl
theorem Try.cOps:prog.cellsOf 28=1:=by kernel_rfl
theorem Try.bInt:prog.bytesOf 3=8:=by kernel_rfl
theorem Try.bStr:prog.bytesOf 9=16:=by kernel_rfl
theorem Try.bEntry:prog.bytesOf 150=24:=by kernel_rfl
theorem Try.bOp:prog.bytesOf 45=96:=by kernel_rfl
theorem fld (hf:∀ (i:Nat) (f:Field),fs[i]? = some f->Rd H enc P w f.type ((cs.drop f.offset).take (P.cellsOf f.type))) (i:Nat) (hi:(fs[i]?).map (fun f=>(f.type,f.offset))=some (ty,off)) (hn:P.cellsOf ty=n):Rd H enc P w ty ((cs.drop off).take n):=by
 cases hx:fs[i]? with
 | none=>rw [hx] at hi;cases hi
 | some f=>
  rw [hx] at hi
  injection hi with hi
  injection hi with h1 h2
  have:=hf i f hx
  rw [h1,h2,hn] at this
  exact this
theorem rd_strs (h:Rd H enc prog w 24 cs):∃ A n c ss,cs=[.slice A n c]/\StrIs w Any A n c ss/\c*16<=140737488351232:=by
 obtain⟨A,n,c,ss,h1,h2,h3,h4,h5,_⟩:=h.strings underlying24 underlying9 Try.cStr Try.bStr
 exact⟨A,n,c,ss,h1,⟨Rs.of h2 fun _ _ _=>trivial,h4,by unfold maxLen;omega⟩,h5⟩
theorem rd_ints (h:Rd H enc prog w 27 cs):∃ A n c zs,cs=[.slice A n c]/\IntIs w Any A n c zs/\c*8<=140737488351232/\∀ z∈zs,I64 z:=by
 obtain⟨A,n,c,ss,h1,h2,h3,h4,h5,_,h6⟩:=h.ints underlying27 underlying3 Try.cInt Try.bInt
 exact⟨A,n,c,ss,h1,⟨Rs.of h2 fun _ _ _=>trivial,h4,by unfold maxLen;omega⟩,h5,h6⟩
theorem rd_ents (h:Rd H enc prog w 23 cs):∃ A n c es,cs=[.slice A n c]/\EntIs w Any A n c es/\c*24<=140737488351232:=by
 obtain⟨A,n,c,es,h1,h2,h3,h4,h5,_⟩:=h.list (α:=Int×ByteArray) (size:=2) underlying23 Try.cEntry Try.bEntry (by omega) (fun e=>[.int .i64 e.1,.string e.2]) (fun _=>True) (fun cs' hl hr=>by
  obtain⟨_,hf⟩:=hr.struct_ underlying150
  obtain⟨c0,c1,rfl⟩:=len2 hl
  have h0:=fld hf 0 (ty:=3) (off:=0) (by rfl) Try.cInt
  have h1:=fld hf 1 (ty:=9) (off:=1) (by rfl) Try.cStr
  simp only [List.drop,List.take] at h0 h1
  obtain⟨n,e0,_⟩:=h0.i64 underlying3
  obtain⟨s,e1,_⟩:=h1.string underlying9
  injection e0 with e0 _
  injection e1 with e1 _
  subst e0
  subst e1
  exact⟨(n,s),rfl,trivial⟩)
 exact⟨A,n,c,es,h1,⟨Rs.of h2 fun _ _ _=>trivial,h4,by unfold maxLen;omega⟩,h5⟩
end
structure OpX where
 c:OpC
 A:Option Addr
 n:Nat
 cap:Nat
 deriving Inhabited
theorem rd_op (hl:cs.length=9) (hr:Rd H enc prog w 45 cs):∃ x:OpX,cs=(x.c.at_ x.A x.n x.cap).cells/\StrIs w Any x.A x.n x.cap x.c.hs/\x.c.Ok:=by
 obtain⟨_,hf⟩:=hr.struct_ underlying45
 obtain⟨c0,c1,c2,c3,c4,c5,c6,c7,c8,rfl⟩:=len9 hl
 have h0:=fld hf 0 (ty:=3) (off:=0) (by rfl) Try.cInt
 have h1:=fld hf 1 (ty:=3) (off:=1) (by rfl) Try.cInt
 have h2:=fld hf 2 (ty:=3) (off:=2) (by rfl) Try.cInt
 have h3:=fld hf 3 (ty:=3) (off:=3) (by rfl) Try.cInt
 have h4:=fld hf 4 (ty:=3) (off:=4) (by rfl) Try.cInt
 have h5:=fld hf 5 (ty:=3) (off:=5) (by rfl) Try.cInt
 have h6:=fld hf 6 (ty:=9) (off:=6) (by rfl) Try.cStr
 have h7:=fld hf 7 (ty:=43) (off:=7) (by rfl) Try.cSheet
 simp only [List.drop,List.take] at h0 h1 h2 h3 h4 h5 h6 h7
 obtain⟨n,e0,k0⟩:=h0.i64 underlying3
 obtain⟨epoch,e1,k1⟩:=h1.i64 underlying3
 obtain⟨kind,e2,k2⟩:=h2.i64 underlying3
 obtain⟨site,e3,k3⟩:=h3.i64 underlying3
 obtain⟨client,e4,k4⟩:=h4.i64 underlying3
 obtain⟨seq,e5,k5⟩:=h5.i64 underlying3
 obtain⟨name,e6,k6⟩:=h6.string underlying9
 obtain⟨_,hg⟩:=h7.struct_ underlying43
 have g0:=fld hg 0 (ty:=3) (off:=0) (by rfl) Try.cInt
 have g1:=fld hg 1 (ty:=24) (off:=1) (by rfl) Try.cStrs
 simp only [List.drop,List.take] at g0 g1
 obtain⟨size,e7,k7⟩:=g0.i64 underlying3
 obtain⟨A,hn,hc,hs,e8,k8,k9⟩:=rd_strs g1
 injection e0 with e0 _
 injection e1 with e1 _
 injection e2 with e2 _
 injection e3 with e3 _
 injection e4 with e4 _
 injection e5 with e5 _
 injection e6 with e6 _
 injection e7 with e7 _
 injection e8 with e8 _
 subst e0 e1 e2 e3 e4 e5 e6 e7 e8
 have:=k8.len
 have:=k8.2.1
 exact⟨⟨⟨n,epoch,kind,site,client,seq,name,size,hs⟩,A,hn,hc⟩,rfl,k8,⟨k0,k1,k2,k3,k4,k5,k6,k7,by show hs.length*16<=_;omega⟩⟩
theorem opsX (w:World) (xs:List OpX) (h:∀ x∈xs,StrIs w Any x.A x.n x.cap x.c.hs/\x.c.Ok):OpsV w Any (xs.map fun x=>x.c.at_ x.A x.n x.cap) (xs.map (·.c)):=by
 induction xs with
 | nil=>trivial
 | cons x l ih=>exact⟨⟨x.A,x.n,x.cap,rfl,(h x (List.mem_cons_self ..)).1⟩,ih fun y hy=>h y (List.mem_cons_of_mem _ hy)⟩
theorem rd_ops (h:Rd H enc prog w 28 cs):∃ A n c os,cs=[.slice A n c]/\OpsIs w Any A n c os/\c*96<=140737488351232/\∀ o∈os,o.Ok:=by
 obtain⟨A,n,c,xs,h1,h2,h3,h4,h5,_,h6⟩:=h.list (α:=OpX) (size:=9) underlying28 Try.cOp Try.bOp (by omega) (fun x=>(x.c.at_ x.A x.n x.cap).cells) (fun x=>StrIs w Any x.A x.n x.cap x.c.hs/\x.c.Ok) (fun cs' hl hr=>rd_op hl hr)
 refine⟨A,n,c,xs.map (·.c),h1,⟨xs.map fun x=>x.c.at_ x.A x.n x.cap,?_,opsX w xs h6,h4,by unfold maxLen;omega⟩,h5,fun o ho=>?_⟩
 ·have e:opsV (xs.map fun x=>x.c.at_ x.A x.n x.cap)=xs.flatMap fun x=>(x.c.at_ x.A x.n x.cap).cells:=by simp [opsV,List.flatMap_map]
  rw [e]
  exact Rs.of h2 fun _ _ _=>trivial
 ·obtain⟨x,hx,rfl⟩:=List.mem_map.1 ho
  exact (h6 x hx).2
theorem rd_spot (h:Rd H enc prog w 26 cs):∃ n e,cs=[.int .i64 n,.int .i64 e]/\I64 n/\I64 e:=by
 obtain⟨hl,hf⟩:=h.struct_ underlying26
 rw [Try.cSpot] at hl
 obtain⟨c0,c1,rfl⟩:=len2 hl
 have h0:=fld hf 0 (ty:=3) (off:=0) (by rfl) Try.cInt
 have h1:=fld hf 1 (ty:=3) (off:=1) (by rfl) Try.cInt
 simp only [List.drop,List.take] at h0 h1
 obtain⟨n,e0,k0⟩:=h0.i64 underlying3
 obtain⟨e,e1,k1⟩:=h1.i64 underlying3
 injection e0 with e0 _
 injection e1 with e1 _
 subst e0 e1
 exact⟨n,e,rfl,k0,k1⟩
theorem rd_mail (hl:cs.length=17) (hr:Rd H enc prog w 30 cs):∃ m:MailC,MailIs w Any cs.toArray m/\m.Ok:=by
 obtain⟨_,hf⟩:=hr.struct_ underlying30
 obtain⟨c0,c1,c2,c3,c4,c5,c6,c7,c8,c9,c10,c11,c12,c13,c14,c15,c16,rfl⟩:=len17 hl
 have h0:=fld hf 0 (ty:=3) (off:=0) (by rfl) Try.cInt
 have h1:=fld hf 1 (ty:=3) (off:=1) (by rfl) Try.cInt
 have h2:=fld hf 2 (ty:=3) (off:=2) (by rfl) Try.cInt
 have h3:=fld hf 3 (ty:=3) (off:=3) (by rfl) Try.cInt
 have h4:=fld hf 4 (ty:=3) (off:=4) (by rfl) Try.cInt
 have h5:=fld hf 5 (ty:=4) (off:=5) (by rfl) Try.cBool
 have h6:=fld hf 6 (ty:=23) (off:=6) (by rfl) Try.cEnts
 have h7:=fld hf 7 (ty:=9) (off:=7) (by rfl) Try.cStr
 have h8:=fld hf 8 (ty:=24) (off:=8) (by rfl) Try.cStrs
 have h9:=fld hf 9 (ty:=3) (off:=9) (by rfl) Try.cInt
 have h10:=fld hf 10 (ty:=3) (off:=10) (by rfl) Try.cInt
 have h11:=fld hf 11 (ty:=26) (off:=11) (by rfl) Try.cSpot
 have h12:=fld hf 12 (ty:=26) (off:=13) (by rfl) Try.cSpot
 have h13:=fld hf 13 (ty:=27) (off:=15) (by rfl) Try.cInts
 have h14:=fld hf 14 (ty:=28) (off:=16) (by rfl) Try.cOps
 simp only [List.drop,List.take] at h0 h1 h2 h3 h4 h5 h6 h7 h8 h9 h10 h11 h12 h13 h14
 obtain⟨kind,e0,k0⟩:=h0.i64 underlying3
 obtain⟨term,e1,k1⟩:=h1.i64 underlying3
 obtain⟨index,e2,k2⟩:=h2.i64 underlying3
 obtain⟨prev,e3,k3⟩:=h3.i64 underlying3
 obtain⟨commit,e4,k4⟩:=h4.i64 underlying3
 obtain⟨good,e5⟩:=h5.bool underlying4
 obtain⟨eA,en,ec,ents,e6,k6,z6⟩:=rd_ents h6
 obtain⟨data,e7,k7⟩:=h7.string underlying9
 obtain⟨hA,hn,hc,hs,e8,k8,z8⟩:=rd_strs h8
 obtain⟨epoch,e9,k9⟩:=h9.i64 underlying3
 obtain⟨site,e10,k10⟩:=h10.i64 underlying3
 obtain⟨aN,aE,e11,k11,k11'⟩:=rd_spot h11
 obtain⟨wN,wE,e12,k12,k12'⟩:=rd_spot h12
 obtain⟨oA,on,oc,holes,e13,k13,z13,y13⟩:=rd_ints h13
 obtain⟨pA,pn,pc,ops,e14,k14,z14,y14⟩:=rd_ops h14
 injection e0 with e0 _
 injection e1 with e1 _
 injection e2 with e2 _
 injection e3 with e3 _
 injection e4 with e4 _
 injection e5 with e5 _
 injection e6 with e6 _
 injection e7 with e7 _
 injection e8 with e8 _
 injection e9 with e9 _
 injection e10 with e10 _
 injection e11 with e11 e11'
 injection e11' with e11' _
 injection e12 with e12 e12'
 injection e12' with e12' _
 injection e13 with e13 _
 injection e14 with e14 _
 subst e0 e1 e2 e3 e4 e5 e6 e7 e8 e9 e10 e11 e11' e12 e12' e13 e14
 have l6:=k6.len
 have l8:=k8.len
 have l13:=k13.len
 have l14:=k14.len
 have c6:=k6.2.1
 have c8:=k8.2.1
 have c13:=k13.2.1
 have c14:pn<=pc:=by obtain⟨_,_,_,h,_⟩:=k14;exact h
 exact⟨⟨kind,term,index,prev,commit,good,ents,data,hs,epoch,site,aN,aE,wN,wE,holes,ops⟩,⟨eA,en,ec,hA,hn,hc,oA,on,oc,pA,pn,pc,rfl,k6,k8,k13,k14⟩,
  ⟨k0,k1,k2,k3,k4,by show ents.length*24<=_;omega,k7,by show hs.length*16<=_;omega,k9,k10,k11,k11',k12,k12',by show holes.length*8<=_;omega,y13,by show ops.length*96<=_;omega,y14⟩⟩
end
end Go.Proofs.Ytaipgdhdfpemcaa
