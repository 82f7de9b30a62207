/- THE WALKS OF THE LANE, part 8. -/
import Derived.Test.YtaipgdhdfpemcaaF7
namespace Go.Proofs.Ytaipgdhdfpemcaa
set_option linter.all false
open Go.RowKit Go.Proofs.Try
set_option maxRecDepth 100000
set_option maxHeartbeats 4000000
def OpC.big (c:OpC):Nat:=4+min c.name.size 1048576+c.hs.length
def bigOf (cs:List OpC):Nat:=(cs.map OpC.big).sum
section
variable {S:Nat->Prop}
section
variable (cs:List OpC)
include cs
theorem bigOf_take (k:Nat) (c:OpC) (h:cs[k]? = some c):bigOf (cs.take (k+1))=bigOf (cs.take k)+c.big:=by
 unfold bigOf
 rw [List.take_add_one,h]
 simp
theorem bigOf_le (k:Nat):bigOf (cs.take k)<=bigOf cs:=by
 have e:cs=cs.take k++cs.drop k:=(List.take_append_drop k cs).symm
 have:bigOf cs=bigOf (cs.take k)+bigOf (cs.drop k):=by
  conv=>lhs;rw [e]
  unfold bigOf
  rw [List.map_append,List.sum_append]
 omega
theorem bigOf_len:cs.length*4<=bigOf cs:=by
 induction cs with
 | nil=>exact Nat.zero_le _
 | cons a l ih=>
  have e:bigOf (a::l)=a.big+bigOf l:=by simp [bigOf]
  have:4<=a.big:=by unfold OpC.big;omega
  rw [List.length_cons]
  omega
end
theorem great_any (A:O) (n cap:Nat) (cs:List OpC) (w:World) (h:OpsIs w S A n cap cs) (hn:n*96<=140737488351232) (hok:∀ c∈cs,c.Ok) :
 Calls prog 12 #[.slice A n cap] w fun e w'=>e=.returned (.bool (decide (4096<bigOf cs)))/\Below w w w':=by
 have hlen:=h.len
 obtain⟨HR,HL,HO⟩:=J3 h hlen hok
 clear h hlen hok
 go_enter func12,ntmps12
 go_wp2_with fail
 go_loopw [3,8] (fun s i wr=>∃ k:Nat,k<=n/\i=.int .i64 k/\s=.int .i64 (bigOf (cs.take k):Nat)/\bigOf (cs.take k)<=4096/\Below w w wr) (fun _ i _=>n-(intOf i).toNat)
 case atStart=>exact⟨0,by omega,rfl,by simp [bigOf],by simp [bigOf],Below.refl _ _⟩
 case round=>
  obtain⟨k,hk,rfl,rfl,hle,hb⟩:=hrel
  have HB:=J hb
  clear hb
  obtain⟨S,hS⟩:∃ S,S=bigOf (cs.take k):=⟨_,rfl⟩
  rw [<-hS] at hle ⊢
  have HS:=J hS
  clear hS
  rcases Nat.lt_or_ge k n with hk1|hk1
  ·obtain⟨ad,c,hA,hn',hc,rfl,hab,hck,hop,hss⟩:=(HR.out.below HB.out).at_ hk1
   have hl:=hss.len
   have ho:=HO.out c (List.mem_of_getElem? hck)
   have hz1:=ho.name
   have hz2:hn'*16<=140737488351232:=by have:=ho.hs;omega
   have hbig:c.big=4+min c.name.size 1048576+hn':=by unfold OpC.big;omega
   have htk:=bigOf_take cs k c hck
   rw [<-HS.out,hbig] at htk
   have HTK:=J htk
   have hpos:bigOf (cs.take (k+1))<=bigOf cs:=bigOf_le cs (k+1)
   have HP:=J hpos
   obtain⟨k0,k1,k2,k3,k4,k5,k6,k7,k8⟩:=hop
   simp only [OpC.at_] at k0 k1 k2 k3 k4 k5 k6 k7 k8
   obtain⟨x1,x2,x3,x4,x5,x6,x7,x8,x9⟩:=c
   simp only at *
   clear hck hss hl ho hbig htk hpos
   obtain⟨G,hG⟩:∃ G,G=bigOf (cs.take (k+1)):=⟨_,rfl⟩
   rw [<-hG] at HTK HP
   have HG:=J hG
   clear hG
   by_cases hm:1048576<x7.size
   ·have hg:G=S+(1048580+hn'):=by have:=HTK.out;omega
    exact Y50
   ·have hg:G=S+(4+x7.size+hn'):=by have:=HTK.out;omega
    exact Y50
  ·obtain rfl:n=k:=by omega
   have e:bigOf cs=S:=by rw [HS.out,List.take_of_length_le (by rw [HL.out];exact Nat.le_refl _)]
   have HE:=J e
   clear e
   go_wp2
   go_ret
   exact⟨ret_bool' (by rw [HE.out];simp;omega),HB.out⟩
end
def MailC.heavy (m:MailC):Bool:=decide (100<m.ents.length+m.hs.length+m.ops.length)||decide (4096<bigOf m.ops)||decide (1000<m.data.size)
theorem heavy_any (cells:Array Value) (m:MailC) (w:World) {S:Nat->Prop} (h:MailIs w S cells m) (hok:m.Ok) :
 Calls prog 11 #[.agg cells] w fun e w'=>e=.returned (.bool m.heavy)/\Below w w w':=by
 obtain⟨eA,en,ec,hA,hn,hc,oA,on,oc,pA,pn,pc,rfl,h1,h2,h3,h4⟩:=h
 have l1:=h1.len
 have l2:=h2.len
 have l4:=h4.len
 have hh:m.heavy=(decide (100<en+hn+pn)||decide (4096<bigOf m.ops)||decide (1000<m.data.size)):=by unfold MailC.heavy;rw [l1,l2,l4]
 have z1:en*24<=140737488351232:=by rw [<-l1];exact hok.ents
 have z2:hn*16<=140737488351232:=by rw [<-l2];exact hok.hs
 have z4:pn*96<=140737488351232:=by rw [<-l4];exact hok.ops
 have z3:=hok.data
 have hgr:=fun W (hb:Below w w W)=>great_any pA pn pc m.ops W (h4.below hb) z4 hok.op
 have HG:=J hgr
 have hb0:Below w w (w.alloc (.cells (mailC m.kind m.term m.index m.prev m.commit m.good eA en ec m.data hA hn hc m.epoch m.site m.atN m.atE m.whN m.whE oA on oc pA pn pc) 30)):=(Below.refl _ _).alloc (Nat.le_refl _) _
 have HB0:=J hb0
 have hbk:=Blk.new w 30 (mailC m.kind m.term m.index m.prev m.commit m.good eA en ec m.data hA hn hc m.epoch m.site m.atN m.atE m.whN m.whE oA on oc pA pn pc)
 have HBK:=J hbk
 rw [hh]
 clear h1 h2 h3 h4 l1 l2 l4 hok hgr hb0 hh hbk
 by_cases hbig:100<en+hn+pn
 ·have d1:decide (100<en+hn+pn)=true:=decide_eq_true hbig
  rw [d1]
  clear d1
  go_enter func11,ntmps11
  have d2:decide ((100:Int)<(en:Int)+(hn:Int)+(pn:Int))=true:=decide_eq_true (by omega)
  go_wp2
  go_ret
  exact⟨ret_bool' (by simp),HB0.out⟩
 ·have d1:decide (100<en+hn+pn)=false:=decide_eq_false hbig
  rw [d1]
  clear d1
  obtain⟨b,hb⟩:∃ b,b=decide (4096<bigOf m.ops):=⟨_,rfl⟩
  rw [<-hb]
  have HG2:=HG.out
  rw [<-hb] at HG2
  have HG3:=J HG2
  clear HG HG2 hb
  cases b with
  | true=>
   go_enter func11,ntmps11
   have d2:decide ((100:Int)<(en:Int)+(hn:Int)+(pn:Int))=false:=decide_eq_false (by omega)
   go_wp2_with fail
   refine (HG3.out _ HB0.out).mono ?_
   rintro e w1 ⟨rfl,hb1⟩
   have HB1:=J (HB0.out.trans (hb1.mono HB0.out.size))
   clear hb1
   go_wp2
   go_ret
   exact⟨rfl,HB1.out⟩
  | false=>
   by_cases hd:1000<m.data.size
   ·have d3:decide (1000<m.data.size)=true:=decide_eq_true hd
    rw [d3]
    clear d3
    go_enter func11,ntmps11
    have d2:decide ((100:Int)<(en:Int)+(hn:Int)+(pn:Int))=false:=decide_eq_false (by omega)
    have d4:decide ((1000:Int)<(m.data.size:Int))=true:=decide_eq_true (by omega)
    exact Y84
   ·have d3:decide (1000<m.data.size)=false:=decide_eq_false hd
    rw [d3]
    clear d3
    go_enter func11,ntmps11
    have d2:decide ((100:Int)<(en:Int)+(hn:Int)+(pn:Int))=false:=decide_eq_false (by omega)
    have d4:decide ((1000:Int)<(m.data.size:Int))=false:=decide_eq_false (by omega)
    exact Y84
theorem putCells_eq (b:Nat):∀ (l:List Value) (w:World) (i:Nat),w.setCells b i l=putCells w b i l
 | [],_,_=>rfl
 | _::l,_,i=>putCells_eq b l _ (i+1)
section
variable {w W:World} {b:Nat} {t:TypeId} {cs:Array Value}
section
variable {B:Nat}
section
variable (h:Blk w b t cs)
include h
theorem Blk.range:w.rangeAt b 0 cs.toList:=by
 intro j v hv
 rw [Nat.zero_add,h.cell j,<-hv]
 simp
theorem Blk.rangeAt_ (o:Nat) (vs:List Value) (hv:∀ j v,vs[j]? = some v->cs[o+j]? = some v):w.rangeAt b o vs:=by
 intro j v hj
 rw [h.cell (o+j)]
 exact hv j v hj
theorem Blk.there_ (o n:Nat) (hn:o+n<=cs.size):w.there b o n:=by
 intro j hj
 rw [h.cell (o+j)]
 exact⟨by rw [Array.getElem?_eq_getElem (by omega)];rfl,h.frozen _⟩
theorem Blk.setCells_ (vs:List Value) (hs:cs.size=vs.length):Blk (w.setCells b 0 vs) b t vs.toArray:=by
 rw [putCells_eq]
 exact putCells_blk h hs
end
theorem below_setCells (hB:B<=b) (h:Below B W w) (o:Nat) (vs:List Value):Below B W (w.setCells b o vs):=by
 rw [putCells_eq]
 exact putCells_below hB vs W w o h
theorem save_setCells (w:World) (b o:Nat) (vs:List Value):Save b w (w.setCells b o vs):=by
 rw [putCells_eq]
 exact putCells_save b vs w o
theorem size_setCells (w:World) (b o:Nat) (vs:List Value):(w.setCells b o vs).heap.size=w.heap.size:=by
 rw [putCells_eq]
 exact putCells_size b vs w o
end
end
section
variable {P:Program} {w:World}
theorem results_cell {fn:Func} {t:Tmp} {ty:TypeId} (h:fn.results=#[.cell t ty]) {tmps:Array Value} {b:Nat} {cs:List Value} {d:TypeDesc} (hp:tmps.getD t undef=.pointer (some ⟨b,0,none⟩)) (hr:w.rangeAt b 0 cs) (hu:P.underlying ty=some d) (hd:d.isRow=true) (hi:(P.info? ty).map (·.size)=some cs.length):(results fn tmps).run P w=.ok (.agg cs.toArray) w:=by
 have hl:=run_loadVar_mid (P:=P) w b 0 ty cs d hr hu hd hi
 rw [Array.getD_eq_getD_getElem?] at hp
 simp [results,h,hp,hl,asAddr]
variable {ops:Array Oper} {rest:List Oper} {o:Oper} {a:Act} {Q:Z}
theorem wpList_value' (hgd:o.guard=none) (v:Value) (W':World) (h:(execOp a.eval o).run P w=.ok (.value v) W') (hk:wpList P ops Q rest (a.put o.dst v) W'):wpList P ops Q (o::rest) a w:=
 wpList_plain hgd fun _ hK=>wp_value' v W' h (hK _ _ hk)
end
section
variable {ad:Addr} {xs:List Value} {B n size:Nat} {w:World}
theorem opsV_cons (o:Opd) (l:List Opd):opsV (o::l)=o.cells++opsV l:=by simp [opsV]
theorem Reads.set_ (h:Reads w B size (some ad) n xs) (j0:Nat) (u:Value) (hj:j0<xs.length) (hn:0<n):Reads (w.setCell (ad.add j0) u) B size (some ad) n (xs.set j0 u):=by
 refine⟨by rw [List.length_set];exact h.1,fun _=>?_⟩
 obtain⟨ad',e,hb,hc⟩:=h.2 hn
 injection e with e
 subst e
 refine⟨_,rfl,hb,fun j v hv=>?_⟩
 rw [List.getElem?_set] at hv
 by_cases hj0:j0=j
 ·subst hj0
  rw [if_pos rfl,if_pos hj] at hv
  injection hv with hv
  subst hv
  have hx:=hc j0 _ (List.getElem?_eq_getElem hj)
  exact World.cell?_setCell_same w _ u (by rw [hx])
 ·rw [if_neg hj0] at hv
  rw [World.cell?_setCell_other _ _ _ _ (fun e=>hj0 ?_)]
  ·exact hc j v hv
  ·have e1:(ad.add j).off=(ad.add j0).off:=by rw [e]
   unfold Addr.add at e1
   by_cases h1:j=0<;>by_cases h2:j0=0<;>simp [h1,h2] at e1<;>omega
end
section
open Go.Maps
theorem strKeyed:Keyed prog 9:=Maps.string_keyed underlying9
theorem intKeyed:Keyed prog 3:=Maps.int_keyed underlying3
@[reducible] def kS (s:ByteArray):Lit:=.string s.data.toList
theorem kS_inj {a b:ByteArray} (h:kS a=kS b):a=b:=by
 injection h with h
 obtain⟨x⟩:=a
 obtain⟨y⟩:=b
 have:x=y:=Array.toList_inj.1 h
 rw [this]
section
variable {s:ByteArray}
theorem kS_key (hs:s.size<=maxLen):keyOf prog 9 (.string s)=some (kS s):=WideMaps.keyOf_string_mk underlying9 hs
theorem zeroSheet (w:World):(zeroValue 43).run prog w=.ok (.agg #[.int .i64 0,.slice none 0 0]) w:=by kernel_rfl
theorem zeroOp (w:World):(zeroValue 45).run prog w=.ok (.agg #[.int .i64 0,.int .i64 0,.int .i64 0,.int .i64 0,.int .i64 0,.int .i64 0,.string ⟨#[]⟩,.int .i64 0,.slice none 0 0]) w:=by kernel_rfl
end
def readS (v:Value):Option (DataW Int×List MemPlace):=match v with
 | .agg cs=>(match cs.toList with
  | [.int .i64 z,.slice _ _ _]=>some (.held z,[])
  | _=>none)
 | _=>none
section
variable {z:Int} {ps:List MemPlace} {v:Value}
theorem readS_mk (z:Int) (A:O) (n c:Nat):readS (.agg #[z,.slice A n c])=some (.held z,[]):=rfl
theorem readS_inv (h:readS v=some (.held z,ps)):∃ A n c,v=.agg #[z,.slice A n c]:=by
 unfold readS at h
 split at h
 ·rename_i cs
  split at h
  ·rename_i x A n c he
   simp only [Option.some.injEq,Prod.mk.injEq,DataW.held.injEq] at h
   obtain⟨rfl,-⟩:=h
   refine⟨A,n,c,?_⟩
   have:cs=#[.int .i64 x,.slice A n c]:=by
    apply Array.toList_inj.1
    rw [he]
   rw [this]
  ·cases h
 ·cases h
end
def LiveF (w:World) (m n:Nat) (f:ByteArray->Option Int):Prop:=
 ∃ D:DataW Int,w.ownsMap prog 9 readS m n D/\IsMap D/\∀ s:ByteArray,Maps.has D (kS s)=(f s).isSome/\∀ z,D.atKey (kS s) z=match f s with
  | some y=>.held y
  | none=>z
section
variable {w w':World} {m n:Nat} {f:ByteArray->Option Int}
section
variable {s:ByteArray} {g:ByteArray->Option Int} {n':Nat}
section
variable (h:LiveF w m n f)
include h
theorem LiveF.lt:m<w:=by
 obtain⟨D,h,_⟩:=h
 exact h.lt
theorem LiveF.keep (hk:w'.heap[m]? = w.heap[m]?):LiveF w' m n f:=by
 exact Y199
theorem LiveF.more (hn:n<=n'):LiveF w m n' f:=by
 obtain⟨D,h1,h2⟩:=h
 exact⟨D,h1.mono hn,h2⟩
theorem LiveF.same (hg:∀ s,g s=f s):LiveF w m n g:=by
 have:g=f:=funext hg
 rw [this]
 exact h
end
theorem LiveF.made (w:World):LiveF (w.alloc (.map #[] 0)) w.heap.size 0 fun _=>none:=
 ⟨.map [],World.ownsMap_made w _ _ _,isMap_empty,fun _=>⟨rfl,fun _=>rfl⟩⟩
section
variable (h:LiveF w m n f) (hs:s.size<=maxLen)
include h hs
theorem LiveF.look:∃ A k c,(Instr.lookup 90 (.map (some m)) (.string s) false).run prog w=.ok (.agg #[.int .i64 ((f s).getD 0),.slice A k c]) w:=by
 obtain⟨D,h1,h2,h3⟩:=h
 obtain⟨v,ps,hrun,hv⟩:=h1.lookup strKeyed underlying90 (zeroSheet w) (readS_mk 0 none 0 0) (kS_key hs)
 have e:D.atKey (kS s) (.held 0)=.held ((f s).getD 0):=by
  rw [(h3 s).2]
  cases f s<;>rfl
 rw [e] at hv
 obtain⟨A,k,c,rfl⟩:=readS_inv hv
 exact⟨A,k,c,hrun⟩
theorem LiveF.lookOk:∃ A k c,(Instr.lookup 90 (.map (some m)) (.string s) true).run prog w=.ok (.tuple #[.agg #[.int .i64 ((f s).getD 0),.slice A k c],.bool (f s).isSome]) w:=by
 obtain⟨D,h1,h2,h3⟩:=h
 obtain⟨v,ps,hrun,hv⟩:=h1.look_ok strKeyed underlying90 (zeroSheet w) (readS_mk 0 none 0 0) (kS_key hs)
 have e:D.atKey (kS s) (.held 0)=.held ((f s).getD 0):=by
  rw [(h3 s).2]
  cases f s<;>rfl
 rw [e] at hv
 obtain⟨A,k,c,rfl⟩:=readS_inv hv
 rw [(h3 s).1] at hrun
 exact⟨A,k,c,hrun⟩
theorem LiveF.drop (ty:TypeId):∃ w',(Builtin.delete_ #[90,9] ty #[.map (some m),.string s]).run prog w=.ok (.tuple #[]) w'/\LiveF w' m n (fun x=>if x=s then none else f x)/\w.mapTurned w' m:=by
 obtain⟨D,h1,h2,h3⟩:=h
 obtain⟨w',hrun,r1,r2⟩:=h1.drop strKeyed underlying90 (kS_key hs) ty
 obtain⟨es,rfl⟩:=h2
 refine⟨w',hrun,⟨_,r1,⟨_,rfl⟩,fun x=>?_⟩,r2⟩
 by_cases hx:x=s
 ·subst hx
  dsimp only
  rw [if_pos rfl]
  exact⟨has_del_same,fun z=>atKey_del_same z⟩
 ·dsimp only
  rw [if_neg hx]
  have hne:kS x≠kS s:=fun e=>hx (kS_inj e)
  exact⟨by rw [has_del_other hne];exact (h3 x).1,fun z=>by rw [atKey_del_other hne];exact (h3 x).2 z⟩
end
theorem LiveF.put (h:LiveF w m n f) (hn:n<maxLen) (hs:s.size<=maxLen) (z:Int) (A:O) (k c:Nat):∃ w',(Instr.mapUpdate 90 (.map (some m)) (.string s) (.agg #[z,.slice A k c])).run prog w=.ok () w'/\LiveF w' m (n+1) (fun x=>if x=s then some z else f x)/\w.grownBy w' (some m):=by
 obtain⟨D,h1,h2,h3⟩:=h
 obtain⟨w',hrun,r1,r2⟩:=h1.update strKeyed underlying90 hn (kS_key hs) (readS_mk z A k c)
 refine⟨w',hrun,⟨_,r1,?_,fun x=>?_⟩,r2⟩
 ·obtain⟨es,rfl⟩:=h2
  exact⟨_,rfl⟩
 ·by_cases hx:x=s
  ·subst hx
   dsimp only
   rw [if_pos rfl]
   exact⟨has_put_same h2 (show WideAt.IsKeyLit (kS x) from trivial) _,fun y=>atKey_put_same h2 (show WideAt.IsKeyLit (kS x) from trivial) _ y⟩
  ·dsimp only
   rw [if_neg hx]
   have hne:kS x≠kS s:=fun e=>hx (kS_inj e)
   exact Y190
end
end
def readO (v:Value):Option (DataW (Int×Int×Int)×List MemPlace):=match v with
 | .agg cs=>(match cs.toList with
  | [.int .i64 a,.int .i64 b,.int .i64 _,.int .i64 _,.int .i64 _,.int .i64 q,.string _,.int .i64 _,.slice _ _ _]=>some (.held (a,b,q),[])
  | _=>none)
 | _=>none
@[reducible] def oC (n epoch kind site client seq:Int) (name:ByteArray) (size:Int) (A:O) (k c:Nat):Array Value:=
 #[n,epoch,kind,site,client,seq,.string name,size,.slice A k c]
section
variable {a b q:Int} {ps:List MemPlace} {v:Value}
theorem readO_mk (n epoch kind site client seq:Int) (name:ByteArray) (size:Int) (A:O) (k c:Nat):readO (.agg (oC n epoch kind site client seq name size A k c))=some (.held (n,epoch,seq),[]):=rfl
theorem readO_inv (h:readO v=some (.held (a,b,q),ps)):∃ kind site client name size A k c,v=.agg (oC a b kind site client q name size A k c):=by
 unfold readO at h
 split at h
 ·rename_i cs
  split at h
  ·rename_i x1 x2 x3 x4 x5 x6 x7 x8 A k c he
   simp only [Option.some.injEq,Prod.mk.injEq,DataW.held.injEq] at h
   obtain⟨⟨rfl,rfl,rfl⟩,-⟩:=h
   refine⟨x3,x4,x5,x7,x8,A,k,c,?_⟩
   have:cs=oC x1 x2 x3 x4 x5 x6 x7 x8 A k c:=by
    apply Array.toList_inj.1
    rw [he]
   rw [this]
  ·cases h
 ·cases h
end
@[reducible] def kI (c:Int):Lit:=.int .i64 c
theorem kI_key {c:Int} (hc:I64 c):keyOf prog 3 (.int .i64 c)=some (kI c):=Maps.keyOf_int_mk underlying3 (WalkArith.wf_i64 ⟨hc.1,hc.2⟩)
def LastF (w:World) (m n:Nat) (f:Int->Option (Int×Int×Int)):Prop:=
 ∃ D:DataW (Int×Int×Int),w.ownsMap prog 3 readO m n D/\IsMap D/\∀ c:Int,Maps.has D (kI c)=(f c).isSome/\∀ z,D.atKey (kI c) z=match f c with
  | some y=>.held y
  | none=>z
section
variable {w w':World} {m n:Nat} {f:Int->Option (Int×Int×Int)}
section
variable {c cl:Int} {g:Int->Option (Int×Int×Int)} {n':Nat}
section
variable (h:LastF w m n f)
include h
theorem LastF.lt:m<w:=by
 obtain⟨D,h,_⟩:=h
 exact h.lt
theorem LastF.keep (hk:w'.heap[m]? = w.heap[m]?):LastF w' m n f:=by
 exact Y199
theorem LastF.more (hn:n<=n'):LastF w m n' f:=by
 obtain⟨D,h1,h2⟩:=h
 exact⟨D,h1.mono hn,h2⟩
theorem LastF.same (hg:∀ s,g s=f s):LastF w m n g:=by
 have:g=f:=funext hg
 rw [this]
 exact h
end
theorem LastF.made (w:World):LastF (w.alloc (.map #[] 0)) w.heap.size 0 fun _=>none:=
 ⟨.map [],World.ownsMap_made w _ _ _,isMap_empty,fun _=>⟨rfl,fun _=>rfl⟩⟩
theorem LastF.lookOk (h:LastF w m n f) (hc:I64 c):∃ kind site client name size A k cp,(Instr.lookup 91 (.map (some m)) (.int .i64 c) true).run prog w=.ok (.tuple #[.agg (oC ((f c).getD (0,0,0)).1 ((f c).getD (0,0,0)).2.1 kind site client ((f c).getD (0,0,0)).2.2 name size A k cp),.bool (f c).isSome]) w:=by
 obtain⟨D,h1,h2,h3⟩:=h
 obtain⟨v,ps,hrun,hv⟩:=h1.look_ok intKeyed underlying91 (zeroOp w) (readO_mk 0 0 0 0 0 0 ⟨#[]⟩ 0 none 0 0) (kI_key hc)
 have e:D.atKey (kI c) (.held (0,0,0))=.held ((f c).getD (0,0,0)):=by
  rw [(h3 c).2]
  cases f c<;>rfl
 rw [e] at hv
 obtain⟨kind,site,client,name,size,A,k,cp,rfl⟩:=readO_inv (a:=((f c).getD (0,0,0)).1) (b:=((f c).getD (0,0,0)).2.1) (q:=((f c).getD (0,0,0)).2.2) hv
 rw [(h3 c).1] at hrun
 exact⟨kind,site,client,name,size,A,k,cp,hrun⟩
theorem LastF.put (h:LastF w m n f) (hn:n<maxLen) (hc:I64 cl) (a b kind site client q:Int) (name:ByteArray) (size:Int) (A:O) (k c:Nat):∃ w',(Instr.mapUpdate 91 (.map (some m)) (.int .i64 cl) (.agg (oC a b kind site client q name size A k c))).run prog w=.ok () w'/\LastF w' m (n+1) (fun x=>if x=cl then some (a,b,q) else f x)/\w.grownBy w' (some m):=by
 obtain⟨D,h1,h2,h3⟩:=h
 obtain⟨w',hrun,r1,r2⟩:=h1.update intKeyed underlying91 hn (kI_key hc) (readO_mk a b kind site client q name size A k c)
 refine⟨w',hrun,⟨_,r1,?_,fun x=>?_⟩,r2⟩
 ·obtain⟨es,rfl⟩:=h2
  exact⟨_,rfl⟩
 ·by_cases hx:x=cl
  ·subst hx
   dsimp only
   rw [if_pos rfl]
   exact⟨has_put_same h2 (show WideAt.IsKeyLit (kI x) from trivial) _,fun y=>atKey_put_same h2 (show WideAt.IsKeyLit (kI x) from trivial) _ y⟩
  ·dsimp only
   rw [if_neg hx]
   have hne:kI x≠kI cl:=fun e=>hx (by injection e)
   exact Y190
end
end
end
@[reducible] noncomputable def takeFF:Func:=Try.f90
theorem wpList_skip' {P:Program} {ops:Array Oper} {rest:List Oper} {o:Oper} {a:Act} {w:World} {Q:Z} (hgd:o.guard=none) (W':World) (h:(execOp a.eval o).run P w=.ok .skip W') (hk:wpList P ops Q rest (a.put o.dst undef) W'):wpList P ops Q (o::rest) a w:=
 wpList_plain hgd fun _ hK=>by
  unfold Oper.wp
  simp [h]
  exact hK _ _ hk
section
variable {f:ByteArray->Option Int} {fence hE hS quota room settled u:Int} {c g k lc ln m1 m2 n ob oc on pc pn:Nat} {lA oA pA:O} {o:OpC} {sl:Value} {w:World}
section
variable (Q:Z) (a:Act) (hfr:Fr 73 a [(0,g),(5,ob),(6,sl),(7,.int .i64 (n:Nat)),(8,.int .i64 (k:Nat))]) (hg:Blk w g 98 (ledC (.map (some m1)) u (.map (some m2)) hE hS pA pn pc lA ln lc fence settled quota room)) (ho:Blk w ob 45 (oC o.n o.epoch o.kind o.site o.client o.seq o.name o.size oA on oc))
include Q a hfr hg ho
section
variable (hl:LiveF w m1 c f) (hs:o.name.size<=maxLen)
include hl hs
theorem ft6 (hQ:∀ a' w',Fr 73 a' [(0,g),(5,ob),(6,sl),(7,.int .i64 (n:Nat)),(8,.int .i64 (k:Nat))]->LiveF w' m1 c (fun x=>if x=o.name then none else f x)->w.drew.mapTurned w' m1->Q .normal a' w') :
 (part [1,0,0,1,1,0,0,1,1,1,0] (codeOf takeFF)).wp prog Q a w:=by
 have g0:=hg.c1 0
 have o6:=ho.c1 6
 have HQ:=J hQ
 clear hQ
 have HL:=J hl
 clear hl hg ho
 refine gg hfr fun t=>?_
 go_still_tail 6,kr
 change wpList _ _ _ _ _ w.drew
 obtain⟨w',hrun,hl',ht⟩:=(HL.out.keep (w':=w.drew) rfl).drop hs 0
 refine wpList_value' rfl (.tuple #[]) w' (by simp [execOp,resolve,invoke,builtin,Act.eval,hrun,Result.andThen]) ?_
 exact Y112
theorem ft8 (hc:c<maxLen) (hQ:∀ a' w',Fr 73 a' [(0,g),(5,ob),(6,sl),(7,.int .i64 (n:Nat)),(8,.int .i64 (k:Nat))]->LiveF w' m1 (c+1) (fun x=>if x=o.name then some o.size else f x)->w.drew.grownBy w' (some m1)->Q .normal a' w') :
 (part [1,0,0,1,1,0,0,1,1,1,1,0,1,0,0] (codeOf takeFF)).wp prog Q a w:=by
 have g0:=hg.c1 0
 obtain⟨o6,o7,o8⟩:=ho.cs 6 3
 have HQ:=J hQ
 clear hQ
 have HL:=J hl
 clear hl hg ho
 refine gg hfr fun t=>?_
 go_still_tail 8,kr
 change wpList _ _ _ _ _ w.drew
 obtain⟨w',hrun,hl',ht⟩:=(HL.out.keep (w':=w.drew) rfl).put hc hs o.size oA on oc
 refine wpList_skip' rfl w' (by simp [execOp,Act.eval,hrun,Result.andThen]) ?_
 exact Y112
end
theorem ft10 {f:Int->Option (Int×Int×Int)} (hl:LastF w m2 c f) (hs:I64 o.client) (hc:c<maxLen) (hQ:∀ a' w',Fr 73 a' [(0,g),(5,ob),(6,sl),(7,.int .i64 (n:Nat)),(8,.int .i64 (k:Nat))]->LastF w' m2 (c+1) (fun x=>if x=o.client then some (o.n,o.epoch,o.seq) else f x)->w.drew.grownBy w' (some m2)->Q .normal a' w') :
 (part [1,0,0,1,1,0,0,1,1,1,1,1] (codeOf takeFF)).wp prog Q a w:=by
 have g2:=hg.c1 2
 obtain⟨o0,o1,o2,o3,o4,o5,o6,o7,o8⟩:=ho.cs 0 9
 have HQ:=J hQ
 clear hQ
 have HL:=J hl
 clear hl hg ho
 refine gg hfr fun t=>?_
 go_still_tail 7,kr
 change wpList _ _ _ _ _ w.drew
 obtain⟨w',hrun,hl',ht⟩:=(HL.out.keep (w':=w.drew) rfl).put hc hs o.n o.epoch o.kind o.site o.client o.seq o.name o.size oA on oc
 refine wpList_skip' rfl w' (by simp [execOp,Act.eval,hrun,Result.andThen]) ?_
 exact Y112
theorem ft9 (hw:wrap64 (u+o.size)=u+o.size) (hQ:∀ a' w',Fr 73 a' [(0,g),(5,ob),(6,sl),(7,.int .i64 (n:Nat)),(8,.int .i64 (k:Nat))]->w'=(w.setCell ⟨g,1,none⟩ (.int .i64 (u+o.size))).drew->Q .normal a' w') :
 (part [1,0,0,1,1,0,0,1,1,1,1,0,1,0,1] (codeOf takeFF)).wp prog Q a w:=by
 have g1:=hg.c1 1
 have o7:=ho.c1 7
 have HQ:=J hQ
 clear hQ
 have f1:w.frozen? ⟨g,1,none⟩=false:=hg.frozen 1
 have HWW:=J hw
 clear hg ho hw
 refine gg hfr fun t=>?_
 go_still_tail 10,kr
 change wpList _ _ _ _ _ w.drew
 go_wp2_with fail
 exact HQ.out _ _ ff (by rw [HWW.out])
theorem ft5 (hl:LiveF w m1 c f) (hs:o.name.size<=maxLen) (hw:wrap64 (u-(f o.name).getD 0)=u-(f o.name).getD 0) (hQ:∀ a' w',Fr 73 a' [(0,g),(5,ob),(6,sl),(7,.int .i64 (n:Nat)),(8,.int .i64 (k:Nat))]->w'=(w.setCell ⟨g,1,none⟩ (.int .i64 (u-(f o.name).getD 0))).drew->Q .normal a' w') :
 (part [1,0,0,1,1,0,0,1,1,0] (codeOf takeFF)).wp prog Q a w:=by
 obtain⟨g0,g1⟩:=hg.cs 0 2
 have o6:=ho.c1 6
 have HQ:=J hQ
 clear hQ
 have f1:w.frozen? ⟨g,1,none⟩=false:=hg.frozen 1
 obtain⟨A,p,q,hrun⟩:=(hl.keep (w':=w.drew) rfl).look hs
 obtain⟨z,hz⟩:∃ z,z=(f o.name).getD 0:=⟨_,rfl⟩
 rw [<-hz] at hrun hw HQ
 have qf:∀ w,(Instr.field 43 (.agg #[.int .i64 z,.slice A p q]) 0).run prog w=.ok (.int .i64 z) w:=fun w=>by kernel_rfl
 have HWW:=J hw
 clear hl hg ho hz hw
 refine gg hfr fun t=>?_
 go_still_tail 15,kr
 change wpList _ _ _ _ _ w.drew
 go_wp2_with fail
 exact HQ.out _ _ ff (by rw [HWW.out])
end
end
section
open Go.Maps
open Go.ChangeShapes Go.WideShapes Go.MapKept
open Go.WideElems (Fit)
section
variable {H:Type} {P:Program} {k e t:TypeId} {R:Value->Option (DataW H×List MemPlace)} {es:Array MapEntry} {clock b:Nat}
theorem fit_look_all (K:Keyed P k) (ht:P.underlying t=some (.map k e)) (F:Fit P k R es clock) {z:Value} (hz:∀ w,(zeroValue e).run P w=.ok z w) {key:Value} {kl:Lit} (hkey:keyOf P k key=some kl) :
 ∃ v:Value,∀ w,w.heap[b]? = some (.map es clock)->(Instr.lookup t (.map (some b)) key true).run P w=.ok v w:=by
 have hn:es.toList.Pairwise (fun x y=>x.key≠y.key):=((stamped_iff es clock).1 F.stamped).2.2
 by_cases h:∃ x∈es.toList,x.key=key
 ·obtain⟨x,hx,hxk⟩:=h
  refine⟨.tuple #[x.val,.bool true],fun w hb=>?_⟩
  rcases K.find w hkey es.toList F.keys with ⟨h1,h2⟩|⟨j,e0,h1,h2,h3⟩
  ·exact absurd hxk (h2 x hx)
  ·obtain⟨i,hi⟩:=List.getElem?_of_mem hx
   obtain⟨hi1,hi2⟩:=List.getElem?_eq_some_iff.1 hi
   obtain⟨hj1,hj2⟩:=List.getElem?_eq_some_iff.1 h2
   have hp:=List.pairwise_iff_getElem.1 hn
   have hij:i=j:=by
    rcases Nat.lt_trichotomy i j with h|h|h
    ·exact absurd (by rw [hi2,hj2,hxk,h3]) (hp i j hi1 hj1 h)
    ·exact h
    ·exact absurd (by rw [hi2,hj2,hxk,h3]) (hp j i hj1 hi1 h)
   subst hij
   have hxe:e0=x:=hj2.symm.trans hi2
   subst hxe
   simp [Instr.lookup,run_underlying ht,MapKept.run_getObj_map hb,K.check w _ hkey,h1,Result.andThen]
 ·refine⟨.tuple #[z,.bool false],fun w hb=>?_⟩
  rcases K.find w hkey es.toList F.keys with ⟨h1,h2⟩|⟨j,e0,h1,h2,h3⟩
  ·simp [Instr.lookup,run_underlying ht,MapKept.run_getObj_map hb,K.check w _ hkey,h1,hz w,Result.andThen]
  ·exact absurd ⟨e0,List.mem_of_getElem? h2,h3⟩ h
end
theorem ok_inj {α:Type} {a b:α} {w w':World} (h:Result.ok a w=Result.ok b w'):a=b:=by
 cases h
 rfl
section
variable {w:World} {m n:Nat}
section
variable {s:ByteArray} {c:Int} {f:Int->Option (Int×Int×Int)}
theorem LastF.look_all (h:LastF w m n f) (hc:I64 c):∃ kind site client name size A k cp,∀ w',w'.heap[m]? = w.heap[m]?->(Instr.lookup 91 (.map (some m)) (.int .i64 c) true).run prog w'=.ok (.tuple #[.agg (oC ((f c).getD (0,0,0)).1 ((f c).getD (0,0,0)).2.1 kind site client ((f c).getD (0,0,0)).2.2 name size A k cp),.bool (f c).isSome]) w':=by
 obtain⟨kind,site,client,name,size,A,k,cp,hrun⟩:=h.lookOk hc
 refine⟨kind,site,client,name,size,A,k,cp,fun w' hk=>?_⟩
 obtain⟨D,⟨es,clock,hb,F,_,_⟩,_⟩:=h
 obtain⟨v,hv⟩:=fit_look_all (b:=m) intKeyed underlying91 F zeroOp (kI_key hc)
 exact Y198
theorem LiveF.look_all {f:ByteArray->Option Int} (h:LiveF w m n f) (hs:s.size<=maxLen):∃ A k c,∀ w',w'.heap[m]? = w.heap[m]?->(Instr.lookup 90 (.map (some m)) (.string s) true).run prog w'=.ok (.tuple #[.agg #[.int .i64 ((f s).getD 0),.slice A k c],.bool (f s).isSome]) w':=by
 obtain⟨A,k,c,hrun⟩:=h.lookOk hs
 refine⟨A,k,c,fun w' hk=>?_⟩
 obtain⟨D,⟨es,clock,hb,F,_,_⟩,_⟩:=h
 obtain⟨v,hv⟩:=fit_look_all (b:=m) strKeyed underlying90 F zeroSheet (kS_key hs)
 exact Y198
end
end
end
end Go.Proofs.Ytaipgdhdfpemcaa
