/- THE WALKS OF THE LANE, part 2. -/
import Derived.Test.YtaipgdhdfpemcaaG1
namespace Go.Proofs.Ytaipgdhdfpemcaa
set_option linter.all false
open Go.RowKit
set_option maxRecDepth 100000
set_option maxHeartbeats 4000000
theorem block_of_add (a:Addr) (n:Nat):(a.add n).block=a.block:=by unfold Addr.add;split<;>rfl
theorem add_of_add (a:Addr) (i j:Nat):(a.add i).add j=a.add (i+j):=by
 unfold Addr.add
 by_cases hi:i=0<;>by_cases hj:j=0<;>simp [hi,hj,Nat.add_assoc]
def Reads (w:World) (B size:Nat) (A:O) (n:Nat) (xs:List Value):Prop:=
 xs.length=n*size/\(0<n->∃ ad,A=some ad/\ad.block<B/\∀ j u,xs[j]? = some u->w.cell? (ad.add j)=some u)
section
variable {w w':World} {B B' size n:Nat} {A:O} {xs:List Value}
section
variable {p:Addr} {base c cap k:Nat} {row:Option Nat} {e:TypeId}
theorem Reads.none_:Reads w B size A 0 []:=⟨by simp,fun h=>absurd h (by omega)⟩
theorem Reads.at_ (h:Reads w B 1 A n xs) (hk:k<n):∃ ad u,A=some ad/\ad.block<B/\xs[k]? = some u/\w.cell? (ad.add k)=some u:=by
 obtain⟨ad,e,hb,hc⟩:=h.2 (by omega)
 have hl:k<xs.length:=by have:=h.1;omega
 exact⟨ad,xs[k],e,hb,List.getElem?_eq_getElem hl,hc k _ (List.getElem?_eq_getElem hl)⟩
section
variable (h:Reads w B size A n xs)
include h
theorem Reads.keep (hk:∀ p:Addr,p.block<B->w'.cell? p=w.cell? p):Reads w' B size A n xs:=
 ⟨h.1,fun hn=>by
  obtain⟨ad,e,hb,hc⟩:=h.2 hn
  exact⟨ad,e,hb,fun j u hu=>(hk _ (by rw [block_of_add];exact hb)).trans (hc j u hu)⟩⟩
theorem Reads.more (hB:B<=B'):Reads w B' size A n xs:=
 ⟨h.1,fun hn=>by
  obtain⟨ad,e,hb,hc⟩:=h.2 hn
  exact⟨ad,e,by omega,hc⟩⟩
theorem Reads.below (hb:Below B w w'):Reads w' B size A n xs:=h.keep fun _ hp=>hb.cell hp
theorem Reads.drew:Reads w.drew B size A n xs:=h
theorem Reads.drewN (k:Nat):Reads (w.drewN k) B size A n xs:=h
theorem Reads.alloc (hB:B<=w) (o:Obj):Reads (w.alloc o) B size A n xs:=h.keep fun p hp=>World.cell?_alloc_lt w o p (by omega)
theorem Reads.setCell (hB:B<=p.block) (u:Value):Reads (w.setCell p u) B size A n xs:=
 h.keep fun q hq=>World.cell?_setCell_other w p q u (fun e=>by subst e;omega)
theorem Reads.grown (hg:w.grownBy w' row) (hB:B<=w) (hr:∀ g,row=some g->B<=g):Reads w' B size A n xs:=
 h.keep fun p hp=>World.cell?_of_block (hg.block p.block (by omega) (fun e=>by have:=hr _ e.symm;omega))
theorem Reads.cut (hk:k<=n) (hc:n<=cap) :
 Reads w B size (if cap=k then A else A.map (·.add (k*size))) (n-k) (xs.drop (k*size)):=by
 refine⟨by rw [List.length_drop,h.1,Nat.sub_mul],fun hn=>?_⟩
 obtain⟨ad,rfl,hb,hcell⟩:=h.2 (by omega)
 rw [if_neg (by omega)]
 refine⟨ad.add (k*size),rfl,by rw [block_of_add];exact hb,fun j u hu=>?_⟩
 rw [add_of_add]
 exact hcell _ u (by rw [<-hu,List.getElem?_drop])
theorem Reads.head (hk:k<=n):Reads w B size A k (xs.take (k*size)):=by
 refine⟨?_,fun hn=>?_⟩
 ·rw [List.length_take,h.1]
  exact Nat.min_eq_left (Nat.mul_le_mul_right _ hk)
 ·obtain⟨ad,e,hb,hcell⟩:=h.2 (by omega)
  refine⟨ad,e,hb,fun j u hu=>hcell j u ?_⟩
  exact Y87
end
theorem Reads.of_own (h:w.ownsRow base e size (.slice A n c) n xs):Reads w w.heap.size size A n xs:=by
 refine⟨h.1,fun hn=>?_⟩
 obtain⟨g,cap,hv,_,hlt⟩:=h.form hn
 have hA:A=some ⟨g,0,none⟩:=by injection hv
 subst hA
 exact⟨_,rfl,hlt,h.cells (g:=g) rfl⟩
end
end
def Blk (w:World) (g:Nat) (t:TypeId) (cs:Array Value):Prop:=w.heap[g]? = some (.cells cs t (0,0))
section
variable {w w':World} {g:Nat} {t:TypeId} {cs:Array Value}
section
variable {p:Addr} {cs':Array Value} {B g':Nat} {row:Option Nat} {t':TypeId}
section
variable (h:Blk w g t cs)
include h
theorem Blk.lt:g<w:=by
 rcases Nat.lt_or_ge g w.heap.size with hlt|hge
 ·exact hlt
 ·unfold Blk at h;rw [Array.getElem?_eq_none hge] at h;cases h
theorem Blk.cell (i:Nat):w.cell? ⟨g,i,none⟩=cs[i]?:=cell_of_row w g i cs t (0,0) h
theorem Blk.frozen (i:Nat):w.frozen? ⟨g,i,none⟩=false:=by
 unfold Blk at h
 simp [World.frozen?,h]
end
theorem Blk.new (w:World) (t:TypeId) (cs:Array Value):Blk (w.alloc (.cells cs t)) w.heap.size t cs:=heap_alloc_new w _
section
variable (h:Blk w g t cs)
include h
theorem Blk.drew:Blk w.drew g t cs:=h
theorem Blk.drewN (n:Nat):Blk (w.drewN n) g t cs:=h
theorem Blk.alloc (o:Obj):Blk (w.alloc o) g t cs:=(Below.heap_alloc w o g h.lt).trans h
theorem Blk.set_ (i:Nat) (u:Value):Blk (w.setCell ⟨g,i,none⟩ u) g t (cs.setIfInBounds i u):=by
 unfold Blk at h ⊢
 simp [World.setCell,Array.getElem?_modify,h]
theorem Blk.far (hp:g≠p.block) (u:Value):Blk (w.setCell p u) g t cs:=(Below.heap_setCell w p u g hp).trans h
theorem Blk.below (hb:Below B w w') (hg:g<B):Blk w' g t cs:=(hb.block g hg).trans h
theorem Blk.grown (hb:w.grownBy w' row) (hg:some g≠row):Blk w' g t cs:=(hb.block g h.lt hg).trans h
theorem Blk.ne_ (h':Blk w g' t' cs') (hne:t≠t'):g≠g':=by
 rintro rfl
 unfold Blk at h h'
 rw [h] at h'
 injection h' with h'
 injection h' with _ ht
 exact hne ht
end
end
end
section
variable {b:Int} {k:IntKind} {B:Nat} {p:Prop} {W a w w1:World}
theorem bcell (hb:Below W W w1):(∀ b o,b<W.heap.size->w1.cell? ⟨b,o,none⟩=W.cell? ⟨b,o,none⟩)/\(∀ b o,b<W.heap.size->w1.frozen? ⟨b,o,none⟩=W.frozen? ⟨b,o,none⟩):=
 ⟨fun b o h=>hb.cell (p:=⟨b,o,none⟩) h,fun b o h=>hb.frozen (p:=⟨b,o,none⟩) h⟩
theorem below_drewN (h:Below B a w) (n:Nat):Below B a (w.drewN n):=⟨h.os,h.tape,h.output,h.size,h.block⟩
theorem hide (h:p):Hid p:=h
theorem ret_int {a:Int} (h:a=b):Ending.returned (.int k a)=.returned (.int k b):=by rw [h]
end
def cat (ss:List ByteArray):List UInt8:=ss.flatMap fun s=>s.data.toList
theorem cat_append (a b:List ByteArray):cat (a++b)=cat a++cat b:=by simp [cat]
theorem cat_snoc (ss:List ByteArray) (k:Nat) (h:k<ss.length):cat (ss.take (k+1))=cat (ss.take k)++ss[k].data.toList:=by
 rw [List.take_succ_eq_append_getElem h,cat_append]
 simp [cat]
def strV (ss:List ByteArray):List Value:=ss.map Value.string
theorem strV_at (ss:List ByteArray) (k:Nat) (h:k<ss.length):(strV ss)[k]? = some (.string ss[k]):=by
 simp [strV,h]
def cells (w:World) (g:Nat) (t:Array Value):Nat->Nat->Prop
 | _,0=>True
 | i,n+1=>w.cell? ⟨g,i,none⟩=t[i]?/\cells w g t (i+1) n
section
variable {g:Nat} {p:Prop} {t:TypeId} {w:World}
theorem Blk.cells_ {cs:Array Value} (h:Blk w g t cs) (n:Nat):∀ i,cells w g cs i n:=by
 induction n with
 | zero=>exact fun _=>trivial
 | succ n ih=>exact fun i=>⟨h.cell i,ih (i+1)⟩
theorem Blk.cs {cs:Array Value} (h:Blk w g t cs) (i n:Nat) (e:cells w g cs i n->p:=by intro q;simp [cells] at q;exact q):p:=e (h.cells_ n i)
theorem Blk.c1 {cs:Array Value} (h:Blk w g t cs) (i:Nat) (e:w.cell? ⟨g,i,none⟩=cs[i]?->p:=by intro q;simp at q;exact q):p:=e (h.cell i)
end
section
open Go.ChangeShapes Go.WideShapes Go.ChangeAt Go.RowKit
section
variable {H:Type} {enc:TypeId×Value->H} {P:Program} {w:World}
section
variable {a:Addr} {d:DataW H} {p:List MemPlace} {cap len:Nat} {A:O} {e t:TypeId} {v:Value}
theorem block_lt (h:w.cell? a=some v):a.block<w:=by
 rcases Nat.lt_or_ge a.block w.heap.size with hlt|hge
 ·exact hlt
 ·unfold World.cell? at h
  rw [Array.getElem?_eq_none hge] at h
  cases h
theorem open_reads_strings (ht:P.underlying t=some (.slice e)) (he:P.underlying e=some .string) (hc:P.cellsOf e=1) (h:DataW.Trod enc P w 0 (fun _=>true) true t (.slice A len cap) d p) :
 ∃ ss:List ByteArray,Reads w w.heap.size 1 A len (strV ss)/\len<=maxLen/\(∀ x∈ss,x.size<=maxLen):=by
 obtain⟨fuel,hf⟩:=h
 rcases open_strings ht he hc hf with ⟨hcs,_⟩|⟨a,len',cap',ss,hcs,_,hl,hm,hz,_,hcell,hws⟩
 ·simp [Value.cells] at hcs
  exact Y135
 ·simp [Value.cells] at hcs
  obtain⟨rfl,rfl,rfl⟩:=hcs
  simp only [if_true] at hz
  refine⟨ss.take len,⟨by simp [strV];omega,fun hn=>⟨a,rfl,?_,fun j u hu=>?_⟩⟩,by omega,fun x hx=>hws x (List.mem_of_mem_take hx)⟩
  ·have:=hcell 0 (by omega)
   have h2:=block_lt this
   rwa [block_of_add] at h2
  ·simp only [strV,List.getElem?_map,Option.map_eq_some_iff] at hu
   obtain⟨s,hs,rfl⟩:=hu
   have hj:j<ss.length:=by
    have:=(List.getElem?_eq_some_iff.1 hs).1
    simp at this
    omega
   exact Y125
end
def intV (k:IntKind) (zs:List Int):List Value:=zs.map (Value.int k)
section
variable {d:DataW H} {a:Int} {k:IntKind} {p:List MemPlace} {cap len:Nat} {A:O} {e t:TypeId} {v:Value}
theorem intV_at (k:IntKind) (zs:List Int) (j:Nat) (h:j<zs.length):(intV k zs)[j]? = some (.int k zs[j]):=by
 simp [intV,h]
theorem open_reads_ints (ht:P.underlying t=some (.slice e)) (he:P.underlying e=some (.int k)) (hc:P.cellsOf e=1) (h:DataW.Trod enc P w 0 (fun _=>true) true t (.slice A len cap) d p) :
 ∃ zs:List Int,Reads w w.heap.size 1 A len (intV k zs)/\len<=maxLen/\(∀ x∈zs,(Lit.int k x).wf=true):=by
 obtain⟨fuel,hf⟩:=h
 rcases open_ints ht he hc hf with ⟨hcs,_⟩|⟨a,len',cap',zs,hcs,_,hl,hm,hz,_,hcell,hwz⟩
 ·simp [Value.cells] at hcs
  exact Y135
 ·simp [Value.cells] at hcs
  obtain⟨rfl,rfl,rfl⟩:=hcs
  simp only [if_true] at hz
  refine⟨zs.take len,⟨by simp [intV];omega,fun hn=>⟨a,rfl,?_,fun j u hu=>?_⟩⟩,by omega,fun x hx=>hwz x (List.mem_of_mem_take hx)⟩
  ·have:=hcell 0 (by omega)
   have h2:=block_lt this
   rwa [block_of_add] at h2
  ·simp only [intV,List.getElem?_map,Option.map_eq_some_iff] at hu
   obtain⟨s,hs,rfl⟩:=hu
   have hj:j<zs.length:=by
    have:=(List.getElem?_eq_some_iff.1 hs).1
    simp at this
    omega
   exact Y125
theorem trod_places (h:DataW.Trod enc P w 0 (fun _=>true) true t v d p):∀ x∈p,x.block<w:=by
 obtain⟨m,hm⟩:=h
 exact DataW.trod_lt m _ _ _ hm
theorem u32_of_wf (h:(Lit.int .u32 a).wf=true):∃ s:BitVec 32,a=(s.toNat:Int):=by
 have hx:0<=a/\a<=4294967295:=by simpa [Lit.wf,IntKind.min,IntKind.max,IntKind.signed,IntKind.bits] using h
 refine⟨BitVec.ofNat 32 a.toNat,?_⟩
 rw [BitVec.toNat_ofNat,Nat.mod_eq_of_lt (by omega)]
 omega
theorem i64_of_wf (h:(Lit.int .i64 a).wf=true) : -9223372036854775808<=a/\a<=9223372036854775807:=by
 simpa [Lit.wf,IntKind.min,IntKind.max,IntKind.signed,IntKind.bits] using h
end
end
end
end Go.Proofs.Ytaipgdhdfpemcaa
