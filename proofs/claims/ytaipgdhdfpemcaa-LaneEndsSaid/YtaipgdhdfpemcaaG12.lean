/- THE WALKS OF THE LANE, part 12. -/
import Derived.Test.YtaipgdhdfpemcaaG10
namespace Go.Proofs.Ytaipgdhdfpemcaa
set_option linter.all false
open Go.RowKit Go.Proofs.Try
set_option maxRecDepth 100000
set_option maxHeartbeats 4000000
section
open Go.Maps
theorem strKeyed:Keyed prog 9:=Maps.string_keyed underlying9
theorem intKeyed:Keyed prog 3:=Maps.int_keyed underlying3
@[reducible] def kS (s:ByteArray):Lit:=.string s.data.toList
section
variable {a b s:ByteArray}
theorem kS_inj (h:kS a=kS b):a=b:=by
 injection h with h
 obtain⟨x⟩:=a
 obtain⟨y⟩:=b
 have:x=y:=Array.toList_inj.1 h
 rw [this]
theorem kS_key (hs:s.size<=maxLen):keyOf prog 9 (.string s)=some (kS s):=WideMaps.keyOf_string_mk underlying9 hs
theorem zeroSheet (w:World):(zeroValue 43).run prog w=.ok (.agg #[.int .i64 0,.slice none 0 0]) w:=by kernel_rfl
theorem zeroOp (w:World):(zeroValue 45).run prog w=.ok (.agg #[.int .i64 0,.int .i64 0,.int .i64 0,.int .i64 0,.int .i64 0,.int .i64 0,.string ⟨#[]⟩,.int .i64 0,.slice none 0 0]) w:=by kernel_rfl
end
def readS (v:Value):Option (DataW Int×List MemPlace):=match v with
 | .agg cs=>(match cs.toList with
  | [.int .i64 z,.slice _ _ _]=>some (.held z,[])
  | _=>none)
 | _=>none
section
variable {z:Int} {ps:List MemPlace} {v:Value}
theorem readS_mk (z:Int) (A:O) (n c:Nat):readS (.agg #[z,.slice A n c])=some (.held z,[]):=rfl
theorem readS_inv (h:readS v=some (.held z,ps)):∃ A n c,v=.agg #[z,.slice A n c]:=by
 unfold readS at h
 split at h
 ·rename_i cs
  split at h
  ·rename_i x A n c he
   simp only [Option.some.injEq,Prod.mk.injEq,DataW.held.injEq] at h
   obtain⟨rfl,-⟩:=h
   refine⟨A,n,c,?_⟩
   have:cs=#[.int .i64 x,.slice A n c]:=by
    apply Array.toList_inj.1
    rw [he]
   rw [this]
  ·cases h
 ·cases h
end
def LiveF (w:World) (m n:Nat) (f:ByteArray->Option Int):Prop:=
 ∃ D:DataW Int,w.ownsMap prog 9 readS m n D/\IsMap D/\∀ s:ByteArray,Maps.has D (kS s)=(f s).isSome/\∀ z,D.atKey (kS s) z=match f s with
  | some y=>.held y
  | none=>z
section
variable {w w':World} {m n:Nat} {f:ByteArray->Option Int}
section
variable {s:ByteArray} {g:ByteArray->Option Int} {n':Nat}
section
variable (h:LiveF w m n f)
include h
theorem LiveF.lt:m<w:=by
 obtain⟨D,h,_⟩:=h
 exact h.lt
theorem LiveF.keep (hk:w'.heap[m]? = w.heap[m]?):LiveF w' m n f:=by
 exact Y133
theorem LiveF.more (hn:n<=n'):LiveF w m n' f:=by
 obtain⟨D,h1,h2⟩:=h
 exact⟨D,h1.mono hn,h2⟩
theorem LiveF.same (hg:∀ s,g s=f s):LiveF w m n g:=by
 have:g=f:=funext hg
 rw [this]
 exact h
end
theorem LiveF.made (w:World):LiveF (w.alloc (.map #[] 0)) w.heap.size 0 fun _=>none:=
 ⟨.map [],World.ownsMap_made w _ _ _,isMap_empty,fun _=>⟨rfl,fun _=>rfl⟩⟩
section
variable (h:LiveF w m n f) (hs:s.size<=maxLen)
include h hs
theorem LiveF.look:∃ A k c,(Instr.lookup 90 (.map (some m)) (.string s) false).run prog w=.ok (.agg #[.int .i64 ((f s).getD 0),.slice A k c]) w:=by
 obtain⟨D,h1,h2,h3⟩:=h
 obtain⟨v,ps,hrun,hv⟩:=h1.lookup strKeyed underlying90 (zeroSheet w) (readS_mk 0 none 0 0) (kS_key hs)
 have e:D.atKey (kS s) (.held 0)=.held ((f s).getD 0):=by
  rw [(h3 s).2]
  cases f s<;>rfl
 rw [e] at hv
 obtain⟨A,k,c,rfl⟩:=readS_inv hv
 exact⟨A,k,c,hrun⟩
theorem LiveF.lookOk:∃ A k c,(Instr.lookup 90 (.map (some m)) (.string s) true).run prog w=.ok (.tuple #[.agg #[.int .i64 ((f s).getD 0),.slice A k c],.bool (f s).isSome]) w:=by
 obtain⟨D,h1,h2,h3⟩:=h
 obtain⟨v,ps,hrun,hv⟩:=h1.look_ok strKeyed underlying90 (zeroSheet w) (readS_mk 0 none 0 0) (kS_key hs)
 have e:D.atKey (kS s) (.held 0)=.held ((f s).getD 0):=by
  rw [(h3 s).2]
  cases f s<;>rfl
 rw [e] at hv
 obtain⟨A,k,c,rfl⟩:=readS_inv hv
 rw [(h3 s).1] at hrun
 exact⟨A,k,c,hrun⟩
theorem LiveF.drop (ty:TypeId):∃ w',(Builtin.delete_ #[90,9] ty #[.map (some m),.string s]).run prog w=.ok (.tuple #[]) w'/\LiveF w' m n (fun x=>if x=s then none else f x)/\w.mapTurned w' m:=by
 obtain⟨D,h1,h2,h3⟩:=h
 obtain⟨w',hrun,r1,r2⟩:=h1.drop strKeyed underlying90 (kS_key hs) ty
 obtain⟨es,rfl⟩:=h2
 refine⟨w',hrun,⟨_,r1,⟨_,rfl⟩,fun x=>?_⟩,r2⟩
 by_cases hx:x=s
 ·subst hx
  dsimp only
  rw [if_pos rfl]
  exact⟨has_del_same,fun z=>atKey_del_same z⟩
 ·dsimp only
  rw [if_neg hx]
  have hne:kS x≠kS s:=fun e=>hx (kS_inj e)
  exact⟨by rw [has_del_other hne];exact (h3 x).1,fun z=>by rw [atKey_del_other hne];exact (h3 x).2 z⟩
end
theorem LiveF.put (h:LiveF w m n f) (hn:n<maxLen) (hs:s.size<=maxLen) (z:Int) (A:O) (k c:Nat):∃ w',(Instr.mapUpdate 90 (.map (some m)) (.string s) (.agg #[z,.slice A k c])).run prog w=.ok () w'/\LiveF w' m (n+1) (fun x=>if x=s then some z else f x)/\w.grownBy w' (some m):=by
 obtain⟨D,h1,h2,h3⟩:=h
 obtain⟨w',hrun,r1,r2⟩:=h1.update strKeyed underlying90 hn (kS_key hs) (readS_mk z A k c)
 refine⟨w',hrun,⟨_,r1,?_,fun x=>?_⟩,r2⟩
 ·obtain⟨es,rfl⟩:=h2
  exact⟨_,rfl⟩
 ·by_cases hx:x=s
  ·subst hx
   dsimp only
   rw [if_pos rfl]
   exact⟨has_put_same h2 (show WideAt.IsKeyLit (kS x) from trivial) _,fun y=>atKey_put_same h2 (show WideAt.IsKeyLit (kS x) from trivial) _ y⟩
  ·dsimp only
   rw [if_neg hx]
   have hne:kS x≠kS s:=fun e=>hx (kS_inj e)
   exact Y128
end
end
def readO (v:Value):Option (DataW (Int×Int×Int)×List MemPlace):=match v with
 | .agg cs=>(match cs.toList with
  | [.int .i64 a,.int .i64 b,.int .i64 _,.int .i64 _,.int .i64 _,.int .i64 q,.string _,.int .i64 _,.slice _ _ _]=>some (.held (a,b,q),[])
  | _=>none)
 | _=>none
@[reducible] def oC (n epoch kind site client seq:Int) (name:ByteArray) (size:Int) (A:O) (k c:Nat):Array Value:=
 #[n,epoch,kind,site,client,seq,.string name,size,.slice A k c]
section
variable {a b q:Int} {ps:List MemPlace} {v:Value}
theorem readO_mk (n epoch kind site client seq:Int) (name:ByteArray) (size:Int) (A:O) (k c:Nat):readO (.agg (oC n epoch kind site client seq name size A k c))=some (.held (n,epoch,seq),[]):=rfl
theorem readO_inv (h:readO v=some (.held (a,b,q),ps)):∃ kind site client name size A k c,v=.agg (oC a b kind site client q name size A k c):=by
 unfold readO at h
 split at h
 ·rename_i cs
  split at h
  ·rename_i x1 x2 x3 x4 x5 x6 x7 x8 A k c he
   simp only [Option.some.injEq,Prod.mk.injEq,DataW.held.injEq] at h
   obtain⟨⟨rfl,rfl,rfl⟩,-⟩:=h
   refine⟨x3,x4,x5,x7,x8,A,k,c,?_⟩
   have:cs=oC x1 x2 x3 x4 x5 x6 x7 x8 A k c:=by
    apply Array.toList_inj.1
    rw [he]
   rw [this]
  ·cases h
 ·cases h
end
@[reducible] def kI (c:Int):Lit:=.int .i64 c
theorem kI_key {c:Int} (hc:I64 c):keyOf prog 3 (.int .i64 c)=some (kI c):=Maps.keyOf_int_mk underlying3 (WalkArith.wf_i64 ⟨hc.1,hc.2⟩)
def LastF (w:World) (m n:Nat) (f:Int->Option (Int×Int×Int)):Prop:=
 ∃ D:DataW (Int×Int×Int),w.ownsMap prog 3 readO m n D/\IsMap D/\∀ c:Int,Maps.has D (kI c)=(f c).isSome/\∀ z,D.atKey (kI c) z=match f c with
  | some y=>.held y
  | none=>z
section
variable {w w':World} {m n:Nat} {f:Int->Option (Int×Int×Int)}
section
variable {c cl:Int} {g:Int->Option (Int×Int×Int)} {n':Nat}
section
variable (h:LastF w m n f)
include h
theorem LastF.lt:m<w:=by
 obtain⟨D,h,_⟩:=h
 exact h.lt
theorem LastF.keep (hk:w'.heap[m]? = w.heap[m]?):LastF w' m n f:=by
 exact Y133
theorem LastF.more (hn:n<=n'):LastF w m n' f:=by
 obtain⟨D,h1,h2⟩:=h
 exact⟨D,h1.mono hn,h2⟩
theorem LastF.same (hg:∀ s,g s=f s):LastF w m n g:=by
 have:g=f:=funext hg
 rw [this]
 exact h
end
theorem LastF.made (w:World):LastF (w.alloc (.map #[] 0)) w.heap.size 0 fun _=>none:=
 ⟨.map [],World.ownsMap_made w _ _ _,isMap_empty,fun _=>⟨rfl,fun _=>rfl⟩⟩
theorem LastF.lookOk (h:LastF w m n f) (hc:I64 c):∃ kind site client name size A k cp,(Instr.lookup 91 (.map (some m)) (.int .i64 c) true).run prog w=.ok (.tuple #[.agg (oC ((f c).getD (0,0,0)).1 ((f c).getD (0,0,0)).2.1 kind site client ((f c).getD (0,0,0)).2.2 name size A k cp),.bool (f c).isSome]) w:=by
 obtain⟨D,h1,h2,h3⟩:=h
 obtain⟨v,ps,hrun,hv⟩:=h1.look_ok intKeyed underlying91 (zeroOp w) (readO_mk 0 0 0 0 0 0 ⟨#[]⟩ 0 none 0 0) (kI_key hc)
 have e:D.atKey (kI c) (.held (0,0,0))=.held ((f c).getD (0,0,0)):=by
  rw [(h3 c).2]
  cases f c<;>rfl
 rw [e] at hv
 obtain⟨kind,site,client,name,size,A,k,cp,rfl⟩:=readO_inv (a:=((f c).getD (0,0,0)).1) (b:=((f c).getD (0,0,0)).2.1) (q:=((f c).getD (0,0,0)).2.2) hv
 rw [(h3 c).1] at hrun
 exact⟨kind,site,client,name,size,A,k,cp,hrun⟩
theorem LastF.put (h:LastF w m n f) (hn:n<maxLen) (hc:I64 cl) (a b kind site client q:Int) (name:ByteArray) (size:Int) (A:O) (k c:Nat):∃ w',(Instr.mapUpdate 91 (.map (some m)) (.int .i64 cl) (.agg (oC a b kind site client q name size A k c))).run prog w=.ok () w'/\LastF w' m (n+1) (fun x=>if x=cl then some (a,b,q) else f x)/\w.grownBy w' (some m):=by
 obtain⟨D,h1,h2,h3⟩:=h
 obtain⟨w',hrun,r1,r2⟩:=h1.update intKeyed underlying91 hn (kI_key hc) (readO_mk a b kind site client q name size A k c)
 refine⟨w',hrun,⟨_,r1,?_,fun x=>?_⟩,r2⟩
 ·obtain⟨es,rfl⟩:=h2
  exact⟨_,rfl⟩
 ·by_cases hx:x=cl
  ·subst hx
   dsimp only
   rw [if_pos rfl]
   exact⟨has_put_same h2 (show WideAt.IsKeyLit (kI x) from trivial) _,fun y=>atKey_put_same h2 (show WideAt.IsKeyLit (kI x) from trivial) _ y⟩
  ·dsimp only
   rw [if_neg hx]
   have hne:kI x≠kI cl:=fun e=>hx (by injection e)
   exact Y128
end
end
end
theorem eta23 (t:Array Value) (h:t.size=23):t=#[at_ t 0,at_ t 1,at_ t 2,at_ t 3,at_ t 4,at_ t 5,at_ t 6,at_ t 7,at_ t 8,at_ t 9,at_ t 10,at_ t 11,at_ t 12,at_ t 13,at_ t 14,at_ t 15,at_ t 16,at_ t 17,at_ t 18,at_ t 19,at_ t 20,at_ t 21,at_ t 22]:=(eta_ t h).trans kr
def Save2 (x y:Nat) (w w':World):Prop:=w.heap.size<=w'/\∀ b,b<w.heap.size->b≠x->b≠y->w'.heap[b]? = w.heap[b]?
section
variable {x y:Nat} {w w' w'':World}
section
variable {ad:Addr} {xs:List Value} {B n size:Nat} {row:Option Nat}
theorem Save2.refl (w:World):Save2 x y w w:=⟨Nat.le_refl _,fun _ _ _ _=>rfl⟩
section
variable (h:Save2 x y w w')
include h
theorem Save2.trans (h':Save2 x y w' w''):Save2 x y w w'':=⟨Nat.le_trans h.1 h'.1,fun b h1 h2 h3=>(h'.2 b (Nat.lt_of_lt_of_le h1 h.1) h2 h3).trans (h.2 b h1 h2 h3)⟩
theorem Save2.set_ (p:Addr) (hp:p.block=x\/p.block=y) (u:Value):Save2 x y w (w'.setCell p u):=⟨by rw [setCell_size];exact h.1,fun b h1 h2 h3=>(Below.heap_setCell w' p u b (by rcases hp with e|e<;>rw [e]<;>assumption)).trans (h.2 b h1 h2 h3)⟩
theorem Save2.alloc (o:Obj):Save2 x y w (w'.alloc o):=⟨by have:=h.1;simp;omega,fun b h1 h2 h3=>(Below.heap_alloc w' o b (Nat.lt_of_lt_of_le h1 h.1)).trans (h.2 b h1 h2 h3)⟩
theorem Save2.grown (hg:w'.grownBy w'' row) (hr:∀ k,row=some k->w.heap.size<=k\/k=x\/k=y):Save2 x y w w'':=⟨Nat.le_trans h.1 hg.size,fun b h1 h2 h3=>(hg.block b (Nat.lt_of_lt_of_le h1 h.1) (fun e=>by rcases hr b e.symm with h|h|h<;>omega)).trans (h.2 b h1 h2 h3)⟩
theorem Save2.below (hb:Below B w' w'') (hB:w.heap.size<=B):Save2 x y w w'':=⟨Nat.le_trans h.1 hb.size,fun b h1 h2 h3=>(hb.block b (Nat.lt_of_lt_of_le h1 hB)).trans (h.2 b h1 h2 h3)⟩
theorem Save2.cells (b o:Nat) (hp:b=x\/b=y) (vs:List Value):Save2 x y w (w'.setCells b o vs):=by
 refine⟨by rw [size_setCells];exact h.1,fun k h1 h2 h3=>?_⟩
 exact (save_setCells w' b o vs k (Nat.lt_of_lt_of_le h1 h.1) (by rcases hp with e|e<;>rw [e]<;>assumption)).trans (h.2 k h1 h2 h3)
theorem Save2.reads (hr:Reads w w.heap.size size (some ad) n xs) (hx:ad.block≠x) (hy:ad.block≠y):Reads w' w'.heap.size size (some ad) n xs:=by
 refine⟨hr.1,fun hn=>?_⟩
 obtain⟨ad,e,hlt,hc⟩:=hr.2 hn
 injection e with e
 subst e
 refine⟨_,rfl,Nat.lt_of_lt_of_le hlt h.1,fun j u hu=>?_⟩
 rw [World.cell?_of_block (w:=w) (w':=w') (by rw [block_of_add];exact h.2 _ hlt hx hy)]
 exact hc j u hu
end
end
end
theorem Kept.cells {S:Nat->Prop} {w w':World} (h:Kept S w w') (b o:Nat) (hp:¬ S b\/w.heap.size<=b) (vs:List Value):Kept S w (w'.setCells b o vs):=by
 refine⟨by rw [size_setCells];exact h.1,fun k h1 h2=>?_⟩
 exact (save_setCells w' b o vs k (Nat.lt_of_lt_of_le h2 h.1) (by rintro rfl;rcases hp with h|h;exact h h1;omega)).trans (h.2 k h1 h2)
@[reducible] noncomputable def own15F:Func:=Try.f17
section
variable {c0:Array Value} {good:Bool} {data:ByteArray} {atE atN commit epoch index kind prev site term whE whN:Int} {ec en hc hn oc on pc pn:Nat} {eA hA oA pA:O}
theorem mailC_one :
 (mailC kind term index prev commit good eA en ec data hA hn hc epoch site atN atE whN whE oA on oc pA pn pc).all (·.oneCell')=true:=all_oneCell_toArray (by
 intro v hv
 simp only [List.mem_cons,List.not_mem_nil,or_false] at hv
 rcases hv with rfl|rfl|rfl|rfl|rfl|rfl|rfl|rfl|rfl|rfl|rfl|rfl|rfl|rfl|rfl|rfl|rfl<;>rfl)
theorem Try.sizeMail:(prog.info? 30).map (·.size)=some 17:=by kernel_rfl
theorem own15_last (R:Ending->World->Prop) (a:Act) (w:World) (bx rb:Nat) (hfr:Fr 23 a [(1,bx),(2,rb)]) (hbx:Blk w bx 30 (mailC kind term index prev commit good eA en ec data hA hn hc epoch site atN atE whN whE oA on oc pA pn pc)) (hrb:Blk w rb 30 c0) (hc0:c0.size=17) (hR:∀ w',w'=w.setCells rb 0 (mailC kind term index prev commit good eA en ec data hA hn hc epoch site atN atE whN whE oA on oc pA pn pc).toList->R (.returned (.agg (mailC kind term index prev commit good eA en ec data hA hn hc epoch site atN atE whN whE oA on oc pA pn pc))) w') :
 (part [1,1,1,1,1] (codeOf own15F)).wp prog (bodyPost prog own15F R) a w:=by
 have hb2:=hrb.setCells_ (mailC kind term index prev commit good eA en ec data hA hn hc epoch site atN atE whN whE oA on oc pA pn pc).toList (by rw [hc0];rfl)
 obtain⟨t,df⟩:=a
 obtain⟨hd,hs,h1,h2,-⟩:=hfr
 simp only at hd hs h1 h2
 subst hd
 rw [eta23 t hs,h1,h2]
 clear hs h1 h2
 refine Wq ?_
 intro K hK
 conv=>arg 2;whnf
 refine wp_region_lit ?_
 refine wpList_load_mid rfl 30 (.tmp 1) rfl bx 0 rfl _ _ hbx.range underlying30 rfl Try.sizeMail ?_
 refine wpList_store_mid rfl 30 (.tmp 2) (.tmp 22) rfl rb 0 (mailC kind term index prev commit good eA en ec data hA hn hc epoch site atN atE whN whE oA on oc pA pn pc) rfl rfl (hrb.there_ 0 _ (by rw [hc0];exact Nat.le_refl _)) Try.sizeMail mailC_one ?_
 refine wpList_nil ?_
 refine hK _ _ ?_
 conv=>arg 2;whnf
 refine wp_ret ?_
 refine bodyPost_ret (results_cell rfl rfl hb2.range underlying30 rfl Try.sizeMail) rfl ?_
 exact hR _ rfl
end
@[reducible] def noMailC:Array Value:=mailC 0 0 0 0 0 false none 0 0 ⟨#[]⟩ none 0 0 0 0 0 0 0 0 none 0 0 none 0 0
theorem own15_any (cells:Array Value) (m:MailC) (w:World) {S:Nat->Prop} (h:MailIs w S cells m) (hok:m.Ok) (hsm:m.ops.length<=4294967296) :
 Calls prog 17 #[.agg cells] w fun e w'=>∃ cells',e=.returned (.agg cells')/\MailIs w' (From w.heap.size) cells' m/\Below w w w':=by
 obtain⟨eA,en,ec,hA,hn,hc,oA,on,oc,pA,pn,pc,rfl,h1,h2,h3,h4⟩:=h
 have l1:=h1.len
 have l2:=h2.len
 have l3:=h3.len
 have l4:=h4.len
 have z1:en*24<=140737488351232:=by rw [<-l1];exact hok.ents
 have z2:hn*16<=140737488351232:=by rw [<-l2];exact hok.hs
 have z3:on*8<=140737488351232:=by rw [<-l3];exact hok.holes
 have z4:pn<=4294967296:=by rw [<-l4];exact hsm
 have hw1:Below w w ((w.alloc (.cells (mailC m.kind m.term m.index m.prev m.commit m.good eA en ec m.data hA hn hc m.epoch m.site m.atN m.atE m.whN m.whE oA on oc pA pn pc) 30)).alloc (.cells noMailC 30)):=((Below.refl _ _).alloc (Nat.le_refl _) _).alloc (by simp) _
 have hx1:Blk ((w.alloc (.cells (mailC m.kind m.term m.index m.prev m.commit m.good eA en ec m.data hA hn hc m.epoch m.site m.atN m.atE m.whN m.whE oA on oc pA pn pc) 30)).alloc (.cells noMailC 30)) w.heap.size 30 (mailC m.kind m.term m.index m.prev m.commit m.good eA en ec m.data hA hn hc m.epoch m.site m.atN m.atE m.whN m.whE oA on oc pA pn pc):=(Blk.new w _ _).alloc _
 have hr1:Blk ((w.alloc (.cells (mailC m.kind m.term m.index m.prev m.commit m.good eA en ec m.data hA hn hc m.epoch m.site m.atN m.atE m.whN m.whE oA on oc pA pn pc) 30)).alloc (.cells noMailC 30)) (w.heap.size+1) 30 noMailC:=by
  have:=Blk.new (w.alloc (.cells (mailC m.kind m.term m.index m.prev m.commit m.good eA en ec m.data hA hn hc m.epoch m.site m.atN m.atE m.whN m.whE oA on oc pA pn pc) 30)) 30 noMailC
  simpa using this
 have hem:=own_empty ((w.alloc (.cells (mailC m.kind m.term m.index m.prev m.commit m.good eA en ec m.data hA hn hc m.epoch m.site m.atN m.atE m.whN m.whE oA on oc pA pn pc) 30)).alloc (.cells noMailC 30)) 9 1
 have es:((w.alloc (.cells (mailC m.kind m.term m.index m.prev m.commit m.good eA en ec m.data hA hn hc m.epoch m.site m.atN m.atE m.whN m.whE oA on oc pA pn pc) 30)).alloc (.cells noMailC 30)).heap.size=w.heap.size+1+1:=by simp
 rw [es] at hem
 obtain⟨j0,hj0,hy0,hy1,hy2⟩:=info_parts Try.infoStr
 obtain⟨HJ,HY0,HY1,HY2⟩:=J4 hj0 hy0 hy1 hy2
 obtain⟨i0,hi0,hz0,hz1,hz2⟩:=info_parts Try.infoInt
 obtain⟨HI,HZ0,HZ1,HZ2⟩:=J4 hi0 hz0 hz1 hz2
 obtain⟨e0,he0,hx0,hx01,hx2⟩:=info_parts Try.infoEnt
 obtain⟨HE,HX0,HX1,HX2,HEM,HW1,HB1,HR1,R1⟩:=J9 he0 hx0 hx01 hx2 hem hw1 hx1 hr1 h1
 obtain⟨R2,R3,R4,HOK⟩:=J4 h2 h3 h4 hok
 clear hj0 hy0 hy1 hy2 hi0 hz0 hz1 hz2 he0 hx0 hx01 hx2 hem hw1 hx1 hr1 h1 h2 h3 h4 l1 l2 l3 l4 es hok hsm
 go_enter func17,ntmps17
 conv=>arg 2;arg 2;arg 2;arg 2;arg 2;arg 2;change part [1,1,1,1,1] (codeOf own15F)
 go_wp2_with (at_builtin;refine wpList_append_any _ rfl (.tmp 3) (.tmp 5) _ rfl (w.heap.size+1+1) 9 j0 _ 1 16 underlying24 HJ.out HY0.out HY1.out HY2.out rfl (by omega) (.slice (some ⟨w.heap.size+1+1,0,none⟩) 0 0) 0 [] rfl HEM.out w.heap.size hA hn hc (strV m.hs) rfl ((R2.out.1.reads.below HW1.out).alloc (by simp;omega) _) (strV_one m.hs) ?c1 ?c2 ?c3 ?_)
 case c1=>unfold maxLen;omega
 case c2=>omega
 case c3=>simp
 intro v1 w2 hown1 hg1 hat1
 try simp only [Nat.zero_add,List.nil_append] at hown1
 obtain⟨g1,c1,cur1,rfl,hc1,hcm1,hge1,_,hrd1⟩:=own_blk hown1 hat1
 have hs1:w.heap.size+3<=w2:=by have:=hg1.size;simpa using this
 have hx2:=(HB1.out.alloc (.cells #[] 9)).grown hg1 (by simp [Value.ownBlock];omega)
 have hr2:=(HR1.out.alloc (.cells #[] 9)).grown hg1 (by simp [Value.ownBlock])
 have hw2:Below w w w2:=(HW1.out.alloc (by simp;omega) _).grown hg1 (by simp;omega) (by intro k hk;simp [Value.ownBlock] at hk;omega)
 have d8:=hx2.cell 8
 have f8:=hx2.frozen 8
 simp at d8
 have hx2':Blk (w2.setCell ⟨w.heap.size,8,none⟩ (.slice (some ⟨g1,0,none⟩) hn c1)) w.heap.size 30 (mailC m.kind m.term m.index m.prev m.commit m.good eA en ec m.data (some ⟨g1,0,none⟩) hn c1 m.epoch m.site m.atN m.atE m.whN m.whE oA on oc pA pn pc):=hx2.set_ 8 _
 have hr2':Blk (w2.setCell ⟨w.heap.size,8,none⟩ (.slice (some ⟨g1,0,none⟩) hn c1)) (w.heap.size+1) 30 noMailC:=hr2.far (by simp) _
 have hw2':Below w w (w2.setCell ⟨w.heap.size,8,none⟩ (.slice (some ⟨g1,0,none⟩) hn c1)):=hw2.setCell (p:=⟨w.heap.size,8,none⟩) (Nat.le_refl _) _
 have hs2:Save2 w.heap.size (w.heap.size+1) w2 (w2.setCell ⟨w.heap.size,8,none⟩ (.slice (some ⟨g1,0,none⟩) hn c1)):=(Save2.refl _).set_ _ (.inl rfl) _
 have hrd2:=hs2.reads hrd1 (by simp;omega) (by simp;omega)
 have hem2:=own_empty (w2.setCell ⟨w.heap.size,8,none⟩ (.slice (some ⟨g1,0,none⟩) hn c1)) 3 1
 rw [setCell_size] at hem2
 have HEM2:=J hem2
 have k15:((w2.setCell ⟨w.heap.size,8,none⟩ (.slice (some ⟨g1,0,none⟩) hn c1)).alloc (.cells #[] 3)).cell? ⟨w.heap.size,15,none⟩=some (.slice oA on oc):=(hx2'.alloc _).cell 15
 obtain⟨HX2,HR2,HW2,HRD2,HC1⟩:=J5 hx2' hr2' hw2' hrd2 hcm1
 clear hown1 hg1 hat1 hrd1 hx2 hr2 hw2 hx2' hr2' hw2' hs2 hrd2 hem2 hcm1
 go_wp2_with (at_builtin;refine wpList_append_any _ rfl (.tmp 8) (.tmp 10) _ rfl w2.heap.size 3 i0 _ 1 8 underlying27 HI.out HZ0.out HZ1.out HZ2.out rfl (by omega) (.slice (some ⟨w2.heap.size,0,none⟩) 0 0) 0 [] rfl HEM2.out w.heap.size oA on oc (intV .i64 m.holes) rfl ((R3.out.1.reads.below HW2.out).alloc (by simp;omega) _) (intV_one m.holes) ?c1 ?c2 ?c3 ?_)
 case c1=>unfold maxLen;omega
 case c2=>omega
 case c3=>simp
 intro v2 w3 hown2 hg2 hat2
 try simp only [Nat.zero_add,List.nil_append] at hown2
 obtain⟨g2,c2,cur2,rfl,hc2,hcm2,hge2,_,hrd3⟩:=own_blk hown2 hat2
 have hs3:w2.heap.size+1<=w3:=by have:=hg2.size;simpa using this
 have hx3:=(HX2.out.alloc (.cells #[] 3)).grown hg2 (by simp [Value.ownBlock];omega)
 have hr3:=(HR2.out.alloc (.cells #[] 3)).grown hg2 (by simp [Value.ownBlock];omega)
 have hw3:Below w w w3:=(HW2.out.alloc (by simp;omega) _).grown hg2 (by simp;omega) (by intro k hk;simp [Value.ownBlock] at hk;omega)
 have hq3:Save2 w.heap.size (w.heap.size+1) (w2.setCell ⟨w.heap.size,8,none⟩ (.slice (some ⟨g1,0,none⟩) hn c1)) w3:=((Save2.refl _).alloc _).grown hg2 (by intro k hk;simp [Value.ownBlock] at hk;simp;omega)
 have hrd2:=hq3.reads HRD2.out (by simp;omega) (by simp;omega)
 have d15:=hx3.cell 15
 have f15:=hx3.frozen 15
 simp at d15
 have hx3':Blk (w3.setCell ⟨w.heap.size,15,none⟩ (.slice (some ⟨g2,0,none⟩) on c2)) w.heap.size 30 (mailC m.kind m.term m.index m.prev m.commit m.good eA en ec m.data (some ⟨g1,0,none⟩) hn c1 m.epoch m.site m.atN m.atE m.whN m.whE (some ⟨g2,0,none⟩) on c2 pA pn pc):=hx3.set_ 15 _
 have hr3':Blk (w3.setCell ⟨w.heap.size,15,none⟩ (.slice (some ⟨g2,0,none⟩) on c2)) (w.heap.size+1) 30 noMailC:=hr3.far (by simp) _
 have hw3':Below w w (w3.setCell ⟨w.heap.size,15,none⟩ (.slice (some ⟨g2,0,none⟩) on c2)):=hw3.setCell (p:=⟨w.heap.size,15,none⟩) (Nat.le_refl _) _
 have hs3':Save2 w.heap.size (w.heap.size+1) w3 (w3.setCell ⟨w.heap.size,15,none⟩ (.slice (some ⟨g2,0,none⟩) on c2)):=(Save2.refl _).set_ _ (.inl rfl) _
 have hrd2':=hs3'.reads hrd2 (by simp;omega) (by simp;omega)
 have hrd3':=hs3'.reads hrd3 (by simp;omega) (by simp;omega)
 have hem3:=own_empty (w3.setCell ⟨w.heap.size,15,none⟩ (.slice (some ⟨g2,0,none⟩) on c2)) 150 2
 rw [setCell_size] at hem3
 have HEM3:=J hem3
 have k6:((w3.setCell ⟨w.heap.size,15,none⟩ (.slice (some ⟨g2,0,none⟩) on c2)).alloc (.cells #[] 150)).cell? ⟨w.heap.size,6,none⟩=some (.slice eA en ec):=(hx3'.alloc _).cell 6
 obtain⟨HX3,HR3,HW3⟩:=J3 hx3' hr3' hw3'
 have HRD2':=J hrd2'
 obtain⟨HRD3,HC2⟩:=J2 hrd3' hcm2
 clear hown2 hg2 hat2 hrd3 hx3 hr3 hw3 hx3' hr3' hw3' hs3' hq3 hrd2 hrd2' hrd3' hem3 hcm2 HRD2 HX2 HR2 HW2 d8 f8 k15
 go_wp2_with (at_builtin;refine wpList_append_any _ rfl (.tmp 13) (.tmp 15) _ rfl w3.heap.size 150 e0 _ 2 24 underlying23 HE.out HX0.out HX1.out HX2.out rfl (by omega) (.slice (some ⟨w3.heap.size,0,none⟩) 0 0) 0 [] rfl HEM3.out w.heap.size eA en ec (entV m.ents) rfl ((R1.out.1.reads.below HW3.out).alloc (by simp;omega) _) (entV_one m.ents) ?c1 ?c2 ?c3 ?_)
 case c1=>unfold maxLen;omega
 case c2=>omega
 case c3=>simp
 intro v3 w4 hown3 hg3 hat3
 try simp only [Nat.zero_add,List.nil_append] at hown3
 obtain⟨g3,c3,cur3,rfl,hc3,hcm3,hge3,_,hrd4⟩:=own_blk hown3 hat3
 have hs4:w3.heap.size+1<=w4:=by have:=hg3.size;simpa using this
 have hx4:=(HX3.out.alloc (.cells #[] 150)).grown hg3 (by simp [Value.ownBlock];omega)
 have hr4:=(HR3.out.alloc (.cells #[] 150)).grown hg3 (by simp [Value.ownBlock];omega)
 have hw4:Below w w w4:=(HW3.out.alloc (by simp;omega) _).grown hg3 (by simp;omega) (by intro k hk;simp [Value.ownBlock] at hk;omega)
 have hq4:Save2 w.heap.size (w.heap.size+1) (w3.setCell ⟨w.heap.size,15,none⟩ (.slice (some ⟨g2,0,none⟩) on c2)) w4:=((Save2.refl _).alloc _).grown hg3 (by intro k hk;simp [Value.ownBlock] at hk;simp;omega)
 have hrd2:=hq4.reads HRD2'.out (by simp;omega) (by simp;omega)
 have hrd3:=hq4.reads HRD3.out (by simp;omega) (by simp;omega)
 have d6:=hx4.cell 6
 have f6:=hx4.frozen 6
 have d16:=hx4.cell 16
 simp at d6 d16
 have hx4':Blk (w4.setCell ⟨w.heap.size,6,none⟩ (.slice (some ⟨g3,0,none⟩) en c3)) w.heap.size 30 (mailC m.kind m.term m.index m.prev m.commit m.good (some ⟨g3,0,none⟩) en c3 m.data (some ⟨g1,0,none⟩) hn c1 m.epoch m.site m.atN m.atE m.whN m.whE (some ⟨g2,0,none⟩) on c2 pA pn pc):=hx4.set_ 6 _
 have hr4':Blk (w4.setCell ⟨w.heap.size,6,none⟩ (.slice (some ⟨g3,0,none⟩) en c3)) (w.heap.size+1) 30 noMailC:=hr4.far (by simp) _
 have hw4':Below w w (w4.setCell ⟨w.heap.size,6,none⟩ (.slice (some ⟨g3,0,none⟩) en c3)):=hw4.setCell (p:=⟨w.heap.size,6,none⟩) (Nat.le_refl _) _
 have hs4':Save2 w.heap.size (w.heap.size+1) w4 (w4.setCell ⟨w.heap.size,6,none⟩ (.slice (some ⟨g3,0,none⟩) en c3)):=(Save2.refl _).set_ _ (.inl rfl) _
 have hrd2':=hs4'.reads hrd2 (by simp;omega) (by simp;omega)
 have hrd3':=hs4'.reads hrd3 (by simp;omega) (by simp;omega)
 have hrd4':=hs4'.reads hrd4 (by simp;omega) (by simp;omega)
 have hoo:=ownOps_any pA pn pc m.ops (w4.setCell ⟨w.heap.size,6,none⟩ (.slice (some ⟨g3,0,none⟩) en c3)) (R4.out.below hw4') z4 HOK.out.op
 obtain⟨HOO,HX4,HR4,HW4,HS2,HS3,HS4,HC3⟩:=J8 hoo hx4' hr4' hw4' hrd2' hrd3' hrd4' hcm3
 clear hown3 hg3 hat3 hrd4 hx4 hr4 hw4 hx4' hr4' hw4' hs4' hq4 hrd2 hrd3 hrd2' hrd3' hrd4' hoo hcm3 HRD2' HRD3 HX3 HR3 HW3 d15 f15 k6
 go_wp2_with fail
 refine HOO.out.mono ?_
 rintro e w5 ⟨A5,c5,rfl,hops5,hb5⟩
 rw [setCell_size] at hb5
 have hz5:=hb5.size
 rw [setCell_size] at hz5
 have hlt:w.heap.size+1<w4:=by omega
 have hx5:=HX4.out.below hb5 (by omega)
 have hr5:=HR4.out.below hb5 (by omega)
 have d16:=hx5.cell 16
 have f16:=hx5.frozen 16
 simp at d16
 have hx5':Blk (w5.setCell ⟨w.heap.size,16,none⟩ (.slice A5 pn c5)) w.heap.size 30 (mailC m.kind m.term m.index m.prev m.commit m.good (some ⟨g3,0,none⟩) en c3 m.data (some ⟨g1,0,none⟩) hn c1 m.epoch m.site m.atN m.atE m.whN m.whE (some ⟨g2,0,none⟩) on c2 A5 pn c5):=hx5.set_ 16 _
 have hr5':Blk (w5.setCell ⟨w.heap.size,16,none⟩ (.slice A5 pn c5)) (w.heap.size+1) 30 noMailC:=hr5.far (by simp) _
 obtain⟨HX5,HR5,HB5,HO5⟩:=J4 hx5' hr5' hb5 hops5
 clear hx5 hr5 hx5' hr5' hb5 hops5
 go_wp2_with fail
 refine own15_last _ _ _ w.heap.size (w.heap.size+1) ff HX5.out HR5.out rfl ?_
 rintro w6 rfl
 refine⟨_,rfl,?_,?_⟩
 ·have hl:w.heap.size+1<w4:=hlt
  have hk:Kept (From (w.heap.size+2)) (w4.setCell ⟨w.heap.size,6,none⟩ (.slice (some ⟨g3,0,none⟩) en c3)) ((w5.setCell ⟨w.heap.size,16,none⟩ (.slice A5 pn c5)).setCells (w.heap.size+1) 0 (mailC m.kind m.term m.index m.prev m.commit m.good (some ⟨g3,0,none⟩) en c3 m.data (some ⟨g1,0,none⟩) hn c1 m.epoch m.site m.atN m.atE m.whN m.whE (some ⟨g2,0,none⟩) on c2 A5 pn c5).toList):=
   ((Kept.of _ (by rw [setCell_size];exact HB5.out)).set_ ⟨w.heap.size,16,none⟩ (.inl (by show ¬ _<=w.heap.size;omega)) _).cells (w.heap.size+1) 0 (.inl (by show ¬ _<=_;omega)) _
  have hk2:Kept (From w4.heap.size) w5 ((w5.setCell ⟨w.heap.size,16,none⟩ (.slice A5 pn c5)).setCells (w.heap.size+1) 0 (mailC m.kind m.term m.index m.prev m.commit m.good (some ⟨g3,0,none⟩) en c3 m.data (some ⟨g1,0,none⟩) hn c1 m.epoch m.site m.atN m.atE m.whN m.whE (some ⟨g2,0,none⟩) on c2 A5 pn c5).toList):=
   ((Kept.refl _ _).set_ ⟨w.heap.size,16,none⟩ (.inl (by show ¬ _<=w.heap.size;omega)) _).cells (w.heap.size+1) 0 (.inl (by show ¬ _<=_;omega)) _
  have ho:=HO5.out
  rw [setCell_size] at ho
  have r1:Rs _ (From (w.heap.size+2)) 1 (some ⟨g1,0,none⟩) hn (strV m.hs):=Rs.of HS2.out fun _ ad e=>by injection e with e;subst e;show _<=g1;omega
  have r2:Rs _ (From (w.heap.size+2)) 1 (some ⟨g2,0,none⟩) on (intV .i64 m.holes):=Rs.of HS3.out fun _ ad e=>by injection e with e;subst e;show _<=g2;omega
  have r3:Rs _ (From (w.heap.size+2)) 2 (some ⟨g3,0,none⟩) en (entV m.ents):=Rs.of HS4.out fun _ ad e=>by injection e with e;subst e;show _<=g3;omega
  have up:∀ b,w.heap.size+2<=b->w.heap.size<=b:=fun b h=>by omega
  have up2:∀ b,w4.heap.size<=b->w.heap.size<=b:=fun b h=>by omega
  exact⟨_,en,c3,_,hn,c1,_,on,c2,A5,pn,c5,rfl,⟨(r3.keep hk.1 hk.2).mono fun b _ h=>up b h,hc3,HC3.out⟩,⟨(r1.keep hk.1 hk.2).mono fun b _ h=>up b h,hc1,HC1.out⟩,⟨(r2.keep hk.1 hk.2).mono fun b _ h=>up b h,hc2,HC2.out⟩,(ho.kept hk2).mono fun b _ h=>up2 b h⟩
 ·exact below_setCells (by omega) ((HW4.out.trans (HB5.out.mono (by omega))).setCell (p:=⟨w.heap.size,16,none⟩) (Nat.le_refl _) _) _ _
theorem holder_nil (w:World):Calls prog 53 #[.pointer none] w fun x w'=>x=.returned (.agg #[.int .i64 0,.int .i64 0])/\Below w w w':=by
 exact Y158
@[reducible] noncomputable def offerF:Func:=Try.f26
section
open Go.Maps
open Go.ChangeShapes Go.WideShapes Go.MapKept
open Go.WideElems (Fit)
section
variable {H:Type} {P:Program} {k e t:TypeId} {R:Value->Option (DataW H×List MemPlace)} {es:Array MapEntry} {clock b:Nat}
theorem fit_look_all (K:Keyed P k) (ht:P.underlying t=some (.map k e)) (F:Fit P k R es clock) {z:Value} (hz:∀ w,(zeroValue e).run P w=.ok z w) {key:Value} {kl:Lit} (hkey:keyOf P k key=some kl) :
 ∃ v:Value,∀ w,w.heap[b]? = some (.map es clock)->(Instr.lookup t (.map (some b)) key true).run P w=.ok v w:=by
 have hn:es.toList.Pairwise (fun x y=>x.key≠y.key):=((stamped_iff es clock).1 F.stamped).2.2
 by_cases h:∃ x∈es.toList,x.key=key
 ·obtain⟨x,hx,hxk⟩:=h
  refine⟨.tuple #[x.val,.bool true],fun w hb=>?_⟩
  rcases K.find w hkey es.toList F.keys with ⟨h1,h2⟩|⟨j,e0,h1,h2,h3⟩
  ·exact absurd hxk (h2 x hx)
  ·obtain⟨i,hi⟩:=List.getElem?_of_mem hx
   obtain⟨hi1,hi2⟩:=List.getElem?_eq_some_iff.1 hi
   obtain⟨hj1,hj2⟩:=List.getElem?_eq_some_iff.1 h2
   have hp:=List.pairwise_iff_getElem.1 hn
   have hij:i=j:=by
    rcases Nat.lt_trichotomy i j with h|h|h
    ·exact absurd (by rw [hi2,hj2,hxk,h3]) (hp i j hi1 hj1 h)
    ·exact h
    ·exact absurd (by rw [hi2,hj2,hxk,h3]) (hp j i hj1 hi1 h)
   subst hij
   have hxe:e0=x:=hj2.symm.trans hi2
   subst hxe
   simp [Instr.lookup,run_underlying ht,MapKept.run_getObj_map hb,K.check w _ hkey,h1,Result.andThen]
 ·refine⟨.tuple #[z,.bool false],fun w hb=>?_⟩
  rcases K.find w hkey es.toList F.keys with ⟨h1,h2⟩|⟨j,e0,h1,h2,h3⟩
  ·simp [Instr.lookup,run_underlying ht,MapKept.run_getObj_map hb,K.check w _ hkey,h1,hz w,Result.andThen]
  ·exact absurd ⟨e0,List.mem_of_getElem? h2,h3⟩ h
end
theorem ok_inj {α:Type} {a b:α} {w w':World} (h:Result.ok a w=Result.ok b w'):a=b:=by
 cases h
 rfl
section
variable {w:World} {m n:Nat}
section
variable {s:ByteArray} {c:Int} {f:Int->Option (Int×Int×Int)}
theorem LastF.look_all (h:LastF w m n f) (hc:I64 c):∃ kind site client name size A k cp,∀ w',w'.heap[m]? = w.heap[m]?->(Instr.lookup 91 (.map (some m)) (.int .i64 c) true).run prog w'=.ok (.tuple #[.agg (oC ((f c).getD (0,0,0)).1 ((f c).getD (0,0,0)).2.1 kind site client ((f c).getD (0,0,0)).2.2 name size A k cp),.bool (f c).isSome]) w':=by
 obtain⟨kind,site,client,name,size,A,k,cp,hrun⟩:=h.lookOk hc
 refine⟨kind,site,client,name,size,A,k,cp,fun w' hk=>?_⟩
 obtain⟨D,⟨es,clock,hb,F,_,_⟩,_⟩:=h
 obtain⟨v,hv⟩:=fit_look_all (b:=m) intKeyed underlying91 F zeroOp (kI_key hc)
 exact Y132
theorem LiveF.look_all {f:ByteArray->Option Int} (h:LiveF w m n f) (hs:s.size<=maxLen):∃ A k c,∀ w',w'.heap[m]? = w.heap[m]?->(Instr.lookup 90 (.map (some m)) (.string s) true).run prog w'=.ok (.tuple #[.agg #[.int .i64 ((f s).getD 0),.slice A k c],.bool (f s).isSome]) w':=by
 obtain⟨A,k,c,hrun⟩:=h.lookOk hs
 refine⟨A,k,c,fun w' hk=>?_⟩
 obtain⟨D,⟨es,clock,hb,F,_,_⟩,_⟩:=h
 obtain⟨v,hv⟩:=fit_look_all (b:=m) strKeyed underlying90 F zeroSheet (kS_key hs)
 exact Y132
end
end
end
end Go.Proofs.Ytaipgdhdfpemcaa
