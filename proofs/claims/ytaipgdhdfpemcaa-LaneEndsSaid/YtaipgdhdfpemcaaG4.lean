/- THE WALKS OF THE LANE, part 4. -/
import Derived.Test.YtaipgdhdfpemcaaG3
namespace Go.Proofs.Ytaipgdhdfpemcaa
set_option linter.all false
open Go.RowKit Go.Proofs.Try
set_option maxRecDepth 100000
set_option maxHeartbeats 4000000
section
variable {P:Program} (w:World)
section
variable {a:Act} {K:Act->World->Prop} {ops:Array Oper} {rest:List Oper} {o:Oper} {E:Prop} {Q:Z}
section
variable (base:Nat) (t ty e:TypeId) (i:TypeInfo)
include base t ty e i
theorem run_append_of_nil (size:Nat) (ht:P.underlying t=some (.slice e)) (hi:P.info? e=some i) (v:Value) (n:Nat) (xs:List Value) (hown:w.ownsRow base e size v n xs) (c:Nat):(Builtin.append_ #[t,t] ty #[v,.slice none 0 c]).run P w=.ok v w:=by
 rcases hown.2 with ⟨rfl,rfl⟩|⟨g,cap,cur,rfl,_,_,hnc,_⟩
 ·simp [Builtin.append_,run_underlying ht,sizeOf,typeInfo,hi,Builtin.lenOf,Builtin.firstCells]
 ·simp [Builtin.append_,run_underlying ht,sizeOf,typeInfo,hi,Builtin.lenOf,Builtin.firstCells,hnc,storeCells]
theorem run_append_any (z:Value) (size bytes:Nat) (ht:P.underlying t=some (.slice e)) (hi:P.info? e=some i) (hz:i.zero=some z) (hsize:i.size=size) (hby:i.bytes=bytes) (hzs:z.cells.size=size) (hsz:0<size) (v:Value) (n:Nat) (xs:List Value) (hown:w.ownsRow base e size v n xs) (B:Nat) (A:O) (m c:Nat) (news:List Value) (hr:Reads w B size A m news) (h1:∀ u∈news,u.oneCell'=true) (h63:n+m<=maxLen) (hbytes:(n+m)*bytes<=140737488355328) (hbase:base<=w) :
 ∃ v' w',(Builtin.append_ #[t,t] ty #[v,.slice A m c]).run P w=.ok v' w'/\w'.ownsRow base e size v' (n+m) (xs++news)/\w.grownBy w' v.ownBlock/\
  (v'.ownBlock=v.ownBlock\/v'.ownBlock=some w.heap.size):=by
 rcases A with _|ad
 ·have hm : m = 0 := by
   rcases Nat.eq_zero_or_pos m with h0|h0
   ·exact h0
   ·obtain⟨ad,h,_⟩:=hr.2 h0
    cases h
  subst hm
  have hn:news=[]:=List.eq_nil_of_length_eq_zero (by simpa using hr.1)
  subst hn
  exact⟨v,w,run_append_of_nil w base t ty e i size ht hi v n xs hown c,by simpa using hown,World.grownBy.refl w _,.inl rfl⟩
 ·have hcells : ∀ j u, news[j]? = some u -> w.cell? (ad.add j) = some u := by
   intro j u hu
   rcases Nat.eq_zero_or_pos m with h0|h0
   ·subst h0
    have hn:news=[]:=List.eq_nil_of_length_eq_zero (by simpa using hr.1)
    subst hn
    simp at hu
   ·obtain⟨ad',h,_,hc⟩:=hr.2 h0
    injection h with h
    subst h
    exact hc j u hu
  obtain⟨v',w',hrun,h2,h3,_,h5⟩:=run_append_own_at (P:=P) w base t ty e i z size bytes ht hi hz hsize hby hzs hsz v n xs hown ad m c news hr.1 hcells h1 h63 hbytes hbase
  exact⟨v',w',hrun,h2,h3,h5⟩
end
theorem wp_append_any (s x:Operand) (t:TypeId) (ho:o.op=.call {callee:=.builtin .append,args:=#[s,x],argTypes:=#[t,t]}) (base:Nat) (e:TypeId) (i:TypeInfo) (z:Value) (size bytes:Nat) (ht:P.underlying t=some (.slice e)) (hi:P.info? e=some i) (hz:i.zero=some z) (hsize:i.size=size) (hby:i.bytes=bytes) (hzs:z.cells.size=size) (hsz:0<size) (v:Value) (n:Nat) (xs:List Value) (hs:a.eval s=v) (hown:w.ownsRow base e size v n xs) (B:Nat) (A:O) (m c:Nat) (news:List Value) (hx:a.eval x=.slice A m c) (hr:Reads w B size A m news) (h1:∀ u∈news,u.oneCell'=true) (h63:n+m<=maxLen) (hbytes:(n+m)*bytes<=140737488355328) (hbase:base<=w) (h:∀ v' w',w'.ownsRow base e size v' (n+m) (xs++news)->w.grownBy w' v.ownBlock->(v'.ownBlock=v.ownBlock\/v'.ownBlock=some w.heap.size)->K (a.put o.dst v') w'):o.wp P a w K Q:=by
 obtain⟨v',w',hrun,h2,h3,h4⟩:=run_append_any (P:=P) w base t o.type e i z size bytes ht hi hz hsize hby hzs hsz v n xs hown B A m c news hr h1 h63 hbytes hbase
 unfold Oper.wp execOp
 simp only [ho,resolve,invoke,builtin,Sem.run_bind,Sem.run_pure,Result.andThen_ok,List.map_toArray,List.map_cons,List.map_nil,hs,hx,hrun]
 exact h v' w' h2 h3 h4
section
variable (hgd:o.guard=none) (s x:Operand) (t:TypeId)
include hgd s x t
theorem wpList_append_any (ho:o.op=.call {callee:=.builtin .append,args:=#[s,x],argTypes:=#[t,t]}) (base:Nat) (e:TypeId) (i:TypeInfo) (z:Value) (size bytes:Nat) (ht:P.underlying t=some (.slice e)) (hi:P.info? e=some i) (hz:i.zero=some z) (hsize:i.size=size) (hby:i.bytes=bytes) (hzs:z.cells.size=size) (hsz:0<size) (v:Value) (n:Nat) (xs:List Value) (hs:a.eval s=v) (hown:w.ownsRow base e size v n xs) (B:Nat) (A:O) (m c:Nat) (news:List Value) (hx:a.eval x=.slice A m c) (hr:Reads w B size A m news) (h1:∀ u∈news,u.oneCell'=true) (h63:n+m<=maxLen) (hbytes:(n+m)*bytes<=140737488355328) (hbase:base<=w) (h:∀ v' w',w'.ownsRow base e size v' (n+m) (xs++news)->w.grownBy w' v.ownBlock->(v'.ownBlock=v.ownBlock\/v'.ownBlock=some w.heap.size)->wpList P ops Q rest (a.put o.dst v') w'):wpList P ops Q (o::rest) a w:=
 wpList_plain hgd fun _ hK=>wp_append_any w s x t ho base e i z size bytes ht hi hz hsize hby hzs hsz v n xs hs hown B A m c news hx hr h1 h63 hbytes hbase fun v' w' h2 h3 h4=>hK _ _ (h v' w' h2 h3 h4)
theorem step_append_any (ho:o.op=.call {callee:=.builtin .append,args:=#[s,x],argTypes:=#[t,t]}) (base:Nat) (e:TypeId) (i:TypeInfo) (z:Value) (size bytes:Nat) (ht:P.underlying t=some (.slice e)) (hi:P.info? e=some i) (hz:i.zero=some z) (hsize:i.size=size) (hby:i.bytes=bytes) (hzs:z.cells.size=size) (hsz:0<size) (v:Value) (n:Nat) (xs:List Value) (hs:a.eval s=v) (hown:w.ownsRow base e size v n xs) (B:Nat) (A:O) (m c:Nat) (news:List Value) (hx:a.eval x=.slice A m c) (hr:Reads w B size A m news) (h1:∀ u∈news,u.oneCell'=true) (h63:n+m<=maxLen) (hbytes:(n+m)*bytes<=140737488355328) (hbase:base<=w) (h:∀ v' w',w'.ownsRow base e size v' (n+m) (xs++news)->w.grownBy w' v.ownBlock->(v'.ownBlock=v.ownBlock\/v'.ownBlock=some w.heap.size)->K (a.put o.dst v') w') :
 if Region.wanted o (yielded ops a.tmps)=true then Oper.wp P o a w K Q else E:=by
 have hw:Region.wanted o (yielded ops a.tmps)=true:=by simp [Region.wanted,hgd]
 rw [if_pos hw]
 exact wp_append_any w s x t ho base e i z size bytes ht hi hz hsize hby hzs hsz v n xs hs hown B A m c news hx hr h1 h63 hbytes hbase h
end
end
end
section
variable {xs:List Value} {b base n o size:Nat} {e:TypeId} {v:Value} {w:World}
theorem own_empty (w:World) (t:TypeId) (size:Nat):(w.alloc (.cells #[] t)).ownsRow w.heap.size t size (.slice (some ⟨w.heap.size,0,none⟩) 0 0) 0 []:=
 ⟨by simp,.inr ⟨w.heap.size,0,#[],rfl,Nat.le_refl _,heap_alloc_new w _,Nat.le_refl _,Nat.zero_le _,by simp,by simp⟩⟩
section
variable (h:w.ownsRow base e size v n xs)
include h
theorem own_slice:∃ A c,v=.slice A n c/\n<=c/\c<=maxLen/\Reads w w.heap.size size A n xs:=by
 have h0:=h
 rcases h.2 with ⟨rfl,rfl⟩|⟨g,cap,cur,rfl,_,_,hn,hm,_⟩
 ·exact⟨none,0,rfl,Nat.le_refl _,Nat.zero_le _,Reads.of_own (c:=0) h0⟩
 ·exact⟨some ⟨g,0,none⟩,cap,rfl,hn,hm,Reads.of_own (c:=cap) h0⟩
theorem own_some (hat:v.ownBlock=some o\/v.ownBlock=some b) :
 ∃ g c,v=.slice (some ⟨g,0,none⟩) n c/\n<=c/\c<=maxLen/\base<=g/\Reads w w.heap.size size (some ⟨g,0,none⟩) n xs:=by
 have h0:=h
 rcases h.2 with ⟨rfl,rfl⟩|⟨g,cap,cur,rfl,hg,_,hn,hm,_⟩
 ·rcases hat with hat|hat<;>simp [Value.ownBlock] at hat
 ·exact⟨g,cap,rfl,hn,hm,hg,Reads.of_own (c:=cap) h0⟩
end
theorem strV_one (ss:List ByteArray):∀ u∈strV ss,u.oneCell'=true:=by
 intro u hu
 simp only [strV,List.mem_map] at hu
 obtain⟨s,_,rfl⟩:=hu
 rfl
end
section
variable {P:Program} {ops:Array Oper} {a:Act} {U:Nat->Value}
theorem putU_put2 (n i:Nat) (hi:i<n) (v:Value) (hd:∀ j k,j<n->k<n->∀ d,dstAt ops j=some d->dstAt ops k=some d->j=k) :
 (putU ops a U n).put (dstAt ops i) v=putU ops a (updU U i v) n:=by
 induction n with
 | zero=>omega
 | succ n ih=>
  unfold putU
  by_cases h:i=n
  ·subst h
   exact Y104
  ·have e:updU U i v n=U n:=by unfold updU;rw [if_neg (fun e=>h e.symm)]
   rw [e,<-ih (by omega) (fun j k hj hk=>hd j k (by omega) (by omega))]
   exact Y129
end
def drawOk2 (ops:Array Oper) (n:Nat):Bool:=
 ((List.range ops.size).all fun j=>match dstAt ops j with|some d=>decide (d<n)|none=>true)&&
 ((List.range ops.size).all fun j=>(List.range ops.size).all fun k=>(dstAt ops j).isNone||dstAt ops j != dstAt ops k||j==k)&&
 ((List.range ops.size).all fun i=>match ops[i]? with|some o=>o.guard.isNone&&o.after.all (fun e=>!Region.binds .any e||decide (e.on<i))|none=>true)
section
variable {F a:Act} {K:Act->World->Prop} {ops:Array Oper} {id n:Nat} {o:Oper} {P:Program} {W w:World} {Q:Z}
theorem drawOk2_spec (h:drawOk2 ops n=true) :
 (∀ j,j<ops.size->∀ d,dstAt ops j=some d->d<n)/\(∀ j k,j<ops.size->k<ops.size->∀ d,dstAt ops j=some d->dstAt ops k=some d->j=k)/\
 (∀ i o,ops[i]? = some o->o.guard=none/\∀ e∈o.after,Region.binds .any e=true->e.on<i):=by
 simp only [drawOk2,Bool.and_eq_true] at h
 obtain⟨⟨h1,h2⟩,h3⟩:=h
 refine⟨fun j hj d hd=>?_,fun j k hj hk d e1 e2=>?_,fun i o ho=>?_⟩
 ·have:=List.all_eq_true.1 h1 j (List.mem_range.2 hj)
  rw [hd] at this
  exact of_decide_eq_true this
 ·have:=List.all_eq_true.1 (List.all_eq_true.1 h2 j (List.mem_range.2 hj)) k (List.mem_range.2 hk)
  exact Y83
 ·have hi : i < ops.size := by
   exact Y142
  exact Y58
theorem wp_region_stores (hm:P.follows .mixedOrders=true) (V:Nat->Value->World->Prop) (G:World->Prop) (Ext:World->World->Prop) (hsz':drawOk2 ops a.tmps.size=true) (hG:G {w with drawn:=w.drawn+1}) (hmono:∀ i v W W',Ext W W'->V i v W->V i v W') (hstep:∀ (i:Nat) (o:Oper) (F:Act) (U:Nat->Value) (W:World),ops[i]? = some o->G W->(∀ (j:Nat) (t:Tmp),j<ops.size->dstAt ops j=some t->F.eval (.tmp t)=U j)->(∀ t:Tmp,(∀ j,j<ops.size->dstAt ops j≠some t)->F.eval (.tmp t)=a.eval (.tmp t))->(∀ e∈o.after,Region.binds .any e=true->V e.on (U e.on) W)->o.wp P F W (fun a' W'=>∃ v,a'=F.put o.dst v/\V i v W'/\G W'/\Ext W W') Q) (hend:∀ (U:Nat->Value) (W:World),G W->(∀ i,i<ops.size->V i (U i) W)->Q .normal (putU ops a U ops.size) W):(Code.region id ops true).wp P Q a w:=by
 refine wp_region_any hm ?_
 obtain⟨hsz,hd',hback⟩:=drawOk2_spec hsz'
 have main:∀ (fuel:Nat) (l:Array Bool) (U:Nat->Value) (W:World),l.size=ops.size->G W->(∀ i,i<ops.size->l.getD i false=true->V i (U i) W)->
  ((List.range ops.size).filter fun i=>!l.getD i false).length<=fuel->wpAny P .any ops Q fuel l (putU ops a U ops.size) W:=by
  intro fuel
  induction fuel with
  | zero=>
   intro l U W hl hGW hV hf
   exact Y5
  | succ fuel ih=>
   intro l U W hl hGW hV hf
   refine⟨fun hr=>hend U W hGW fun i hi=>hV i hi (ready_some hl (fun i o ho=>(hback i o ho).2) hr i hi),fun i hi=>?_⟩
   obtain⟨o,ho,hln,hpre⟩:=ready_spec hi
   have hio:i<ops.size:=by
    exact Y142
   have hil:i<l.size:=by omega
   have hlf:l.getD i false=false:=by
    exact Y86
   obtain⟨hg,hb⟩:=hback i o ho
   unfold wpOp
   rw [ho]
   have hw:Region.wanted o (yielded ops (putU ops a U ops.size).tmps)=true:=by simp [Region.wanted,hg]
   simp only [hw,if_true]
   left
   refine Oper.wp_mono ?_ (hstep i o (putU ops a U ops.size) U W ho hGW ?_ ?_ ?_)
   ·rintro a' W' ⟨v,rfl,hv,hG',hx⟩
    have hdo:o.dst=dstAt ops i:=by unfold dstAt;rw [ho];rfl
    rw [hdo,putU_put2 ops.size i hio v hd']
    exact Y153
   ·intro j t hj ht
    exact putU_at ops.size hd' j hj t ht (hsz j hj t ht)
   ·intro t ht
    exact putU_off ops.size t ht
   ·intro e he hbe
    have hlt:=hb e he hbe
    exact hV e.on (by omega) (hpre e he hbe)
 obtain⟨U,hU⟩:=putU_self (ops:=ops) (a:=a) ops.size hsz
 exact Y35
theorem wp_skip' (W':World) (h:(execOp F.eval o).run P W=.ok .skip W') (hk:K (F.put o.dst undef) W'):o.wp P F W K Q:=by
 unfold Oper.wp
 rw [h]
 exact hk
end
@[reducible] def laneC (mN mE wN wE:Int) (oA:O) (on oc:Nat) (epoch site next:Int):Array Value:=
 #[mN,mE,wN,wE,.slice oA on oc,epoch,site,next]
theorem new_aw (w:World):Calls prog 25 #[.int .i64 1,.int .i64 0,.int .i64 2] w fun x w'=>x=.returned (.tuple #[.pointer (some ⟨w.heap.size,0,none⟩),.int .i64 0])/\w'=w.alloc (.cells (laneC 0 0 0 0 none 0 0 1 0 2) 127):=by
 exact Y49
@[reducible] def ledC (m1:Value) (used:Int) (m2:Value) (hE hS:Int) (pA:O) (pn pc:Nat) (lA:O) (ln lc:Nat) (fence settled quota room:Int):Array Value:=
 #[m1,used,m2,hE,hS,.slice pA pn pc,.slice lA ln lc,fence,settled,quota,room]
theorem fresh_any (w:World):Calls prog 40 #[] w fun x w'=>∃ m1 m2,x=.returned (.agg #[.map m1,.int .i64 0,.map m2,.int .i64 0,.int .i64 0])/\Below w w w':=by
 go_enter func40,ntmps40
 go_wp2
 rw [run_makeMap_plain]
 go_wp2
 rw [run_makeMap_plain]
 go_wp2
 refine bodyPost_ret (v:=.agg #[.map (some (w.heap.size+1)),.int .i64 0,.map (some (w.heap.size+1+1)),.int .i64 0,.int .i64 0]) (by simp [results,results40,go_sem]) rfl ?_
 exact⟨_,_,rfl,(((Below.refl _ _).alloc (Nat.le_refl _) _).alloc (by simp) _).alloc (by simp;omega) _⟩
def LedAt (W:World) (g:Nat) (fence:Int):Prop:=∃ m1 m2,Blk W g 98 (ledC (.map m1) 0 (.map m2) 0 0 none 0 0 none 0 0 fence 0 100 9)
section
variable {B:Nat} {W W':World}
section
variable {g:Nat} {f:Int} (h:LedAt W g f)
include h
theorem LedAt.below (hb:Below B W W') (hg:g<B):LedAt W' g f:=by
 obtain⟨m1,m2,h⟩:=h
 exact⟨m1,m2,h.below hb hg⟩
theorem LedAt.lt:g<W:=by
 obtain⟨m1,m2,h⟩:=h
 exact h.lt
end
theorem ledger_aw (w:World):Calls prog 8 #[.int .i64 100,.int .i64 9] w fun x w'=>∃ g,x=.returned (.tuple #[.pointer (some ⟨g,0,none⟩),.int .i64 0])/\LedAt w' g 0/\w.heap.size<=g/\Below w w w':=by
 go_enter func8,ntmps8
 go_wp2_with fail
 refine (fresh_any _).mono ?_
 rintro x w1 ⟨m1,m2,rfl,hb1⟩
 have HB:=J hb1
 clear hb1
 go_wp2
 go_ret2
 exact⟨_,rfl,⟨m1,m2,Blk.new w1 _ _⟩,HB.out.size,HB.out.alloc HB.out.size _⟩
section
variable (g:Nat) (f:Int) (w:World) (h:LedAt w g f)
include g f w h
theorem holder_aw:Calls prog 53 #[.pointer (some ⟨g,0,none⟩)] w fun x w'=>x=.returned (.agg #[.int .i64 0,.int .i64 0])/\Below w w w':=by
 obtain⟨m1,m2,h⟩:=h
 have hk:=fun o=>h.alloc o
 have HK:=J hk
 have hg:=h.lt
 have c3:=(h.alloc (.cells #[.int .i64 0,.int .i64 0] 93)).cell 3
 have c4:=(h.alloc (.cells #[.int .i64 0,.int .i64 0] 93)).cell 4
 simp at c3 c4
 clear h hk
 exact Y158
theorem fence_aw:Calls prog 24 #[.pointer (some ⟨g,0,none⟩)] w fun x w'=>x=.returned (.int .i64 f)/\w'=w:=by
 obtain⟨m1,m2,h⟩:=h
 have c7:=h.c1 7
 clear h
 go_enter func24,ntmps24
 exact Y154
end
theorem cloneOps_nil (w:World):Calls prog 98 #[.slice none 0 0] w fun x w'=>x=.returned (.slice none 0 0)/\w'=w:=by
 go_enter func98,ntmps98
 have q:∀ (w:World),(binOp .eql 28 (.slice none 0 0) (.slice none 0 0)).run prog w=.ok (.bool true) w:=fun w=>Lib.run_eql_slice_nil w _ _ none 0 0 0 0 underlying28
 exact Y154
theorem ownLed_nil (w:World):Calls prog 72 #[.slice none 0 0] w fun x w'=>x=.returned (.slice none 0 0)/\w'=w:=by
 go_enter func72,ntmps72
 go_wp2_with fail
 refine (cloneOps_nil _).mono ?_
 exact Y34
section
variable (g:Nat) (f:Int) (w:World) (h:LedAt w g f)
include g f w h
theorem ops_aw:Calls prog 22 #[.pointer (some ⟨g,0,none⟩)] w fun x w'=>x=.returned (.slice none 0 0)/\w'=w:=by
 obtain⟨m1,m2,h⟩:=h
 have c5:=h.c1 5
 clear h
 go_enter func22,ntmps22
 go_wp2_with fail
 refine (ownLed_nil _).mono ?_
 rintro x w1 ⟨rfl,rfl⟩
 exact Y154
theorem hasLed_aw:Calls prog 88 #[.pointer (some ⟨g,0,none⟩),.agg #[.int .i64 2,.int .i64 1]] w fun x w'=>x=.returned (.bool false)/\Below w w w':=by
 obtain⟨m1,m2,h⟩:=h
 have hg:=h.lt
 have c5:=(h.alloc (.cells #[.int .i64 2,.int .i64 1] 26)).cell 5
 simp at c5
 clear h
 go_enter func88,ntmps88
 exact Y114
end
theorem failed_any (e:Int) (w:World):Calls prog 41 #[e] w fun x w'=>x=.returned (.agg #[e,.int .i64 0,.int .i64 0])/\Below w w w':=by
 go_enter func41,ntmps41
 go_wp2
 refine bodyPost_ret (v:=.agg #[e,.int .i64 0,.int .i64 0]) (by simp [results,results41,go_sem]) rfl ?_
 exact Y73
end
def drawOk3 (ops:Array Oper) (n:Nat):Bool:=
 ((List.range ops.size).all fun j=>match dstAt ops j with|some d=>decide (d<n)|none=>true)&&
 ((List.range ops.size).all fun j=>(List.range ops.size).all fun k=>(dstAt ops j).isNone||dstAt ops j != dstAt ops k||j==k)&&
 ((List.range ops.size).all fun i=>match ops[i]? with|some o=>o.after.all (fun e=>!Region.binds .any e||decide (e.on<i))|none=>true)
section
variable {a:Act} {ops:Array Oper} {id n:Nat} {P:Program} {w:World} {Q:Z}
theorem drawOk3_spec (h:drawOk3 ops n=true) :
 (∀ j,j<ops.size->∀ d,dstAt ops j=some d->d<n)/\(∀ j k,j<ops.size->k<ops.size->∀ d,dstAt ops j=some d->dstAt ops k=some d->j=k)/\
 (∀ i o,ops[i]? = some o->∀ e∈o.after,Region.binds .any e=true->e.on<i):=by
 simp only [drawOk3,Bool.and_eq_true] at h
 obtain⟨⟨h1,h2⟩,h3⟩:=h
 refine⟨fun j hj d hd=>?_,fun j k hj hk d e1 e2=>?_,fun i o ho=>?_⟩
 ·have:=List.all_eq_true.1 h1 j (List.mem_range.2 hj)
  rw [hd] at this
  exact of_decide_eq_true this
 ·have:=List.all_eq_true.1 (List.all_eq_true.1 h2 j (List.mem_range.2 hj)) k (List.mem_range.2 hk)
  exact Y83
 ·have hi : i < ops.size := by
   exact Y142
  have:=List.all_eq_true.1 h3 i (List.mem_range.2 hi)
  rw [ho] at this
  simp only [Array.all_eq_true_iff_forall_mem,Bool.or_eq_true,Bool.not_eq_true',decide_eq_true_eq] at this
  exact fun e he hb=>(this e he).resolve_left (by rw [hb];simp)
theorem wp_region_all (hm:P.follows .mixedOrders=true) (V:Nat->Value->World->Prop) (G:World->Prop) (Ext:World->World->Prop) (hsz':drawOk3 ops a.tmps.size=true) (hG:G {w with drawn:=w.drawn+1}) (hmono:∀ i v W W',Ext W W'->V i v W->V i v W') (hstep:∀ (i:Nat) (o:Oper) (F:Act) (U:Nat->Value) (W:World),ops[i]? = some o->G W->(∀ (j:Nat) (t:Tmp),j<ops.size->dstAt ops j=some t->F.eval (.tmp t)=U j)->(∀ t:Tmp,(∀ j,j<ops.size->dstAt ops j≠some t)->F.eval (.tmp t)=a.eval (.tmp t))->(∀ e∈o.after,Region.binds .any e=true->V e.on (U e.on) W)->(Region.wanted o (yielded ops F.tmps)=true->o.wp P F W (fun a' W'=>∃ v,a'=F.put o.dst v/\V i v W'/\G W'/\Ext W W') Q)/\(Region.wanted o (yielded ops F.tmps)=false->V i undef W)) (hend:∀ (U:Nat->Value) (W:World),G W->(∀ i,i<ops.size->V i (U i) W)->Q .normal (putU ops a U ops.size) W):(Code.region id ops true).wp P Q a w:=by
 refine wp_region_any hm ?_
 obtain⟨hsz,hd',hback⟩:=drawOk3_spec hsz'
 have main:∀ (fuel:Nat) (l:Array Bool) (U:Nat->Value) (W:World),l.size=ops.size->G W->(∀ i,i<ops.size->l.getD i false=true->V i (U i) W)->
  ((List.range ops.size).filter fun i=>!l.getD i false).length<=fuel->wpAny P .any ops Q fuel l (putU ops a U ops.size) W:=by
  intro fuel
  induction fuel with
  | zero=>
   intro l U W hl hGW hV hf
   exact Y5
  | succ fuel ih=>
   intro l U W hl hGW hV hf
   refine⟨fun hr=>hend U W hGW fun i hi=>hV i hi (ready_some hl (fun i o ho=>hback i o ho) hr i hi),fun i hi=>?_⟩
   obtain⟨o,ho,hln,hpre⟩:=ready_spec hi
   have hio:i<ops.size:=by
    exact Y142
   have hil:i<l.size:=by omega
   have hlf:l.getD i false=false:=by
    exact Y86
   have hb:=hback i o ho
   unfold wpOp
   rw [ho]
   have hdo:o.dst=dstAt ops i:=by unfold dstAt;rw [ho];rfl
   have fewer:((List.range ops.size).filter fun j=>!(l.setIfInBounds i true).getD j false).length<=fuel:=by
    exact Y8
   have hold:∀ j,j<ops.size->(l.setIfInBounds i true).getD j false=true->j≠i->l.getD j false=true:=by
    intro j hj hlj hji
    exact Y29
   have hst:=hstep i o (putU ops a U ops.size) U W ho hGW (fun j t hj ht=>putU_at ops.size hd' j hj t ht (hsz j hj t ht)) (fun t ht=>putU_off ops.size t ht) (fun e he hbe=>by
    have hlt:=hb e he hbe
    exact hV e.on (by omega) (hpre e he hbe))
   by_cases hw:Region.wanted o (yielded ops (putU ops a U ops.size).tmps)=true
   ·simp only [hw,if_true]
    left
    refine Oper.wp_mono ?_ (hst.1 hw)
    rintro a' W' ⟨v,rfl,hv,hG',hx⟩
    rw [hdo,putU_put2 ops.size i hio v hd']
    refine ih _ _ _ (by simp [hl]) hG' (fun j hj hlj=>?_) fewer
    exact Y56
   ·have hw':Region.wanted o (yielded ops (putU ops a U ops.size).tmps)=false:=by simpa using hw
    simp only [hw',Bool.false_eq_true,if_false]
    rw [hdo,putU_put2 ops.size i hio undef hd']
    refine ih _ _ _ (by simp [hl]) hGW (fun j hj hlj=>?_) fewer
    exact Y61
 obtain⟨U,hU⟩:=putU_self (ops:=ops) (a:=a) ops.size hsz
 exact Y35
end
section
variable {P:Program} {ops:Array Oper} {F:Act} {o:Oper}
section
variable {K:Act->World->Prop} {b c:Bool} {j t:Nat} {V:Prop} {W:World} {Q:Z}
theorem wanted_none (h:o.guard=none):Region.wanted o (yielded ops F.tmps)=true:=by simp [Region.wanted,h]
theorem wanted_by (h:o.guard=some (j,b)) (hj:dstAt ops j=some t) (hv:F.eval (.tmp t)=.bool c):Region.wanted o (yielded ops F.tmps)=(c==b):=by
 have hd:(ops[j]?).bind (·.dst)=some t:=hj
 have ht:F.tmps[t]? = some (.bool c):=by
  have h2:F.tmps[t]?.getD undef=.bool c:=act_tmp hv
  cases hx:F.tmps[t]? with
  | none=>rw [hx] at h2;simp [undef] at h2
  | some v=>rw [hx] at h2;simpa using h2
 simp [Region.wanted,h,yielded,hd,ht]
theorem on_ (hw:Region.wanted o (yielded ops F.tmps)=true) (h:o.wp P F W K Q) :
 (Region.wanted o (yielded ops F.tmps)=true->o.wp P F W K Q)/\(Region.wanted o (yielded ops F.tmps)=false->V):=⟨fun _=>h,fun h'=>by rw [hw] at h';cases h'⟩
theorem off_ (hw:Region.wanted o (yielded ops F.tmps)=false) (h:V) :
 (Region.wanted o (yielded ops F.tmps)=true->o.wp P F W K Q)/\(Region.wanted o (yielded ops F.tmps)=false->V):=⟨fun h'=>(by rw [hw] at h';cases h'),fun _=>h⟩
end
end
section
variable {α:Type} {l:List α}
theorem ln1 (h:l.length=1):∃ x0,l=[x0]:=by match l,h with|[x0],_=>exact⟨_,rfl⟩
theorem ln2 (h:l.length=2):∃ x0 x1,l=[x0,x1]:=by match l,h with|[x0,x1],_=>exact⟨_,_,rfl⟩
theorem ln3 (h:l.length=3):∃ x0 x1 x2,l=[x0,x1,x2]:=by match l,h with|[x0,x1,x2],_=>exact⟨_,_,_,rfl⟩
theorem ln4 (h:l.length=4):∃ x0 x1 x2 x3,l=[x0,x1,x2,x3]:=by match l,h with|[x0,x1,x2,x3],_=>exact⟨_,_,_,_,rfl⟩
theorem ln5 (h:l.length=5):∃ x0 x1 x2 x3 x4,l=[x0,x1,x2,x3,x4]:=by match l,h with|[x0,x1,x2,x3,x4],_=>exact⟨_,_,_,_,_,rfl⟩
theorem ln6 (h:l.length=6):∃ x0 x1 x2 x3 x4 x5,l=[x0,x1,x2,x3,x4,x5]:=by match l,h with|[x0,x1,x2,x3,x4,x5],_=>exact⟨_,_,_,_,_,_,rfl⟩
theorem ln7 (h:l.length=7):∃ x0 x1 x2 x3 x4 x5 x6,l=[x0,x1,x2,x3,x4,x5,x6]:=by match l,h with|[x0,x1,x2,x3,x4,x5,x6],_=>exact⟨_,_,_,_,_,_,_,rfl⟩
theorem ln8 (h:l.length=8):∃ x0 x1 x2 x3 x4 x5 x6 x7,l=[x0,x1,x2,x3,x4,x5,x6,x7]:=by match l,h with|[x0,x1,x2,x3,x4,x5,x6,x7],_=>exact⟨_,_,_,_,_,_,_,_,rfl⟩
end
section
variable {P:Program} {ops:Array Oper} {F a:Act} {o:Oper} {U:Nat->Value} {W:World} {X:Edge->Prop} {Q:Z}
section
variable {K:Act->World->Prop} {Y:Prop} {v:Value}
section
variable (hat:Hid (∀ (j:Nat) (t:Tmp),j<ops.size->dstAt ops j=some t->F.eval (.tmp t)=U j)) (hp:Hid (∀ e∈o.after,Region.binds .any e=true->X e)) (j:Nat) (t:Tmp)
include hat hp j t
theorem ev (g:Ground:=.data) (h1:j<ops.size:=by exact kd) (h2:dstAt ops j=some t:=by rfl) (h3:(⟨j,g⟩:Edge)∈o.after:=by simp) (h4:Region.binds .any ⟨j,g⟩=true:=by rfl) (h5:X ⟨j,g⟩->U j=v:=by exact id):F.eval (.tmp t)=v:=
 (hat.out j t h1 h2).trans (h5 (hp.out _ h3 h4))
theorem tv (g:Ground:=.data) (h1:j<ops.size:=by exact kd) (h2:dstAt ops j=some t:=by rfl) (h3:(⟨j,g⟩:Edge)∈o.after:=by simp) (h4:Region.binds .any ⟨j,g⟩=true:=by rfl) (h5:X ⟨j,g⟩->U j=v:=by exact id):F.tmps[t]?.getD undef=v:=
 act_tmp (ev hat hp j t g h1 h2 h3 h4 h5)
end
theorem vl (hk:K (F.put o.dst v) W) (h:(execOp F.eval o).run P W=.ok (.value v) W:=by unfold execOp;go_simp):o.wp P F W K Q:=wp_value' v W h hk
theorem vn (hk:K (F.put o.dst v) W) (hg:o.guard=none:=by rfl) (h:(execOp F.eval o).run P W=.ok (.value v) W:=by unfold execOp;go_simp) :
 (Region.wanted o (yielded ops F.tmps)=true->o.wp P F W K Q)/\(Region.wanted o (yielded ops F.tmps)=false->Y):=on_ (wanted_none hg) (vl hk h)
end
section
variable {X Y:Edge->Prop} {u:Value}
section
variable (hat:Hid (∀ (j:Nat) (t:Tmp),j<ops.size->dstAt ops j=some t->F.eval (.tmp t)=U j)) (hp:Hid (∀ e∈o.after,Region.binds .any e=true->X e/\Y e)) (j:Nat) (t:Tmp)
include hat hp j t
theorem fev (h1:j<ops.size:=by exact kd) (h2:dstAt ops j=some t:=by rfl) (h3:(⟨j,.data⟩:Edge)∈o.after:=by simp) (h5:X ⟨j,.data⟩->U j=u:=by exact fun h=>h (by decide)):F.eval (.tmp t)=u:=
 (hat.out j t h1 h2).trans (h5 (hp.out _ h3 rfl).1)
theorem cev (h1:j<ops.size:=by exact kd) (h2:dstAt ops j=some t:=by rfl) (h3:(⟨j,.data⟩:Edge)∈o.after:=by simp) (h5:Y ⟨j,.data⟩->some u=some (U j):=by intro h;first|exact h 0 rfl|exact h 1 rfl|exact h 2 rfl|exact h 3 rfl|exact h 4 rfl|exact h 5 rfl|exact h 6 rfl|exact h 7 rfl):F.eval (.tmp t)=u:=
 (hat.out j t h1 h2).trans (Option.some.inj (h5 (hp.out _ h3 rfl).2)).symm
end
end
section
variable {i:Nat} {X:Nat->Prop} {v:Value}
section
variable {K:Act->World->Prop} {b c:Bool} {j t:Nat} {Y:Prop}
theorem nv (hat:Hid (∀ (j:Nat) (t:Tmp),j<ops.size->dstAt ops j=some t->F.eval (.tmp t)=U j)) (hp:Hid (∀ j,j<i->X j)) (j:Nat) (t:Tmp) (h1:j<ops.size:=by exact kd) (h2:dstAt ops j=some t:=by kernel_rfl) (h3:j<i:=by omega) (h4:X j->U j=v:=by exact id):F.eval (.tmp t)=v:=(hat.out j t h1 h2).trans (h4 (hp.out j h3))
theorem onb (hv:F.eval (.tmp t)=.bool b) (h:o.wp P F W K Q) (hg:o.guard=some (j,b):=by rfl) (hj:dstAt ops j=some t:=by kernel_rfl) :
 (Region.wanted o (yielded ops F.tmps)=true->o.wp P F W K Q)/\(Region.wanted o (yielded ops F.tmps)=false->Y):=on_ ((wanted_by hg hj hv).trans (by cases b<;>rfl)) h
theorem offb (hv:F.eval (.tmp t)=.bool c) (h:Y) (hg:o.guard=some (j,b):=by rfl) (hj:dstAt ops j=some t:=by kernel_rfl) (hc:(c==b)=false:=by rfl) :
 (Region.wanted o (yielded ops F.tmps)=true->o.wp P F W K Q)/\(Region.wanted o (yielded ops F.tmps)=false->Y):=off_ ((wanted_by hg hj hv).trans hc) h
end
end
end
theorem wanted_undef {ops:Array Oper} {F:Act} {o:Oper} {j t:Nat} {b:Bool} (h:o.guard=some (j,b)) (hj:dstAt ops j=some t) (hv:F.eval (.tmp t)=undef):Region.wanted o (yielded ops F.tmps)=false:=by
 have hd:(ops[j]?).bind (·.dst)=some t:=hj
 have h2:F.tmps[t]?.getD undef=undef:=act_tmp hv
 cases hx:F.tmps[t]? with
 | none=>simp [Region.wanted,h,yielded,hd,hx]
 | some v=>
  rw [hx] at h2
  have h3:v=undef:=by simpa using h2
  subst h3
  simp [Region.wanted,h,yielded,hd,hx,undef]
section
variable {P:Program} {ops:Array Oper} {F:Act} {o:Oper} {U:Nat->Value} {W:World} {Q:Z} {K:Act->World->Prop} {Y:Prop} {v:Value} {b c:Bool}
theorem oq {i:Nat} {x:Oper} (ho:ops[i]? = some o) (e:ops[i]? = some x:=by conv=>lhs;whnf;arg 1;whnf):o=x:=Option.some.inj (ho.symm.trans e)
section
variable {X:Edge->Prop}
section
variable (j:Nat) (t:Tmp)
include j t
theorem tx (hat:Hid (∀ (j:Nat) (t:Tmp),j<ops.size->dstAt ops j=some t->F.eval (.tmp t)=U j):=by exact qa) (hp:Hid (∀ e∈o.after,Region.binds .any e=true->X e):=by exact qb) (h1:j<ops.size:=by exact kd) (h2:dstAt ops j=some t:=by rfl) (h3:(⟨j,.data⟩:Edge)∈o.after:=by simp) (h5:X ⟨j,.data⟩->U j=v:=by exact id):F.tmps[t]?.getD undef=v:=act_tmp (ev hat hp j t .data h1 h2 h3 rfl h5)
theorem onv (h:o.wp P F W K Q) (hat:Hid (∀ (j:Nat) (t:Tmp),j<ops.size->dstAt ops j=some t->F.eval (.tmp t)=U j):=by exact qa) (hp:Hid (∀ e∈o.after,Region.binds .any e=true->X e):=by exact qb) (hg:o.guard=some (j,b):=by rfl) (h1:j<ops.size:=by exact kd) (h2:dstAt ops j=some t:=by rfl) (h3:(⟨j,.guard⟩:Edge)∈o.after:=by simp) (h5:X ⟨j,.guard⟩->U j=.bool b:=by exact id) :
 (Region.wanted o (yielded ops F.tmps)=true->o.wp P F W K Q)/\(Region.wanted o (yielded ops F.tmps)=false->Y):=onb (ev hat hp j t .guard h1 h2 h3 rfl h5) h hg h2
theorem ofv (hat:Hid (∀ (j:Nat) (t:Tmp),j<ops.size->dstAt ops j=some t->F.eval (.tmp t)=U j):=by exact qa) (hp:Hid (∀ e∈o.after,Region.binds .any e=true->X e):=by exact qb) (hg:o.guard=some (j,b):=by rfl) (h1:j<ops.size:=by exact kd) (h2:dstAt ops j=some t:=by rfl) (h3:(⟨j,.guard⟩:Edge)∈o.after:=by simp) (h5:X ⟨j,.guard⟩->U j=.bool c:=by exact id) (hc:(c==b)=false:=by rfl) (h:Y:=by rfl) :
 (Region.wanted o (yielded ops F.tmps)=true->o.wp P F W K Q)/\(Region.wanted o (yielded ops F.tmps)=false->Y):=offb (ev hat hp j t .guard h1 h2 h3 rfl h5) h hg h2 hc
theorem ufv (hat:Hid (∀ (j:Nat) (t:Tmp),j<ops.size->dstAt ops j=some t->F.eval (.tmp t)=U j):=by exact qa) (hp:Hid (∀ e∈o.after,Region.binds .any e=true->X e):=by exact qb) (hg:o.guard=some (j,b):=by rfl) (h1:j<ops.size:=by exact kd) (h2:dstAt ops j=some t:=by rfl) (h3:(⟨j,.guard⟩:Edge)∈o.after:=by simp) (h5:X ⟨j,.guard⟩->U j=undef:=by exact id) (h:Y:=by rfl) :
 (Region.wanted o (yielded ops F.tmps)=true->o.wp P F W K Q)/\(Region.wanted o (yielded ops F.tmps)=false->Y):=off_ (W:=W) (wanted_undef hg h2 (ev hat hp j t .guard h1 h2 h3 rfl h5)) h
end
end
theorem vla (hk:K (F.put o.dst v) W:=by first|exact⟨_,rfl,rfl,hGW,hrefl W⟩|exact⟨_,rfl,rfl,hGW,trivial⟩) (h:(execOp F.eval o).run P W=.ok (.value v) W:=by unfold execOp;go_simp):o.wp P F W K Q:=vl hk h
theorem vna (hk:K (F.put o.dst v) W:=by first|exact⟨_,rfl,rfl,hGW,hrefl W⟩|exact⟨_,rfl,rfl,hGW,trivial⟩) (hg:o.guard=none:=by rfl) (h:(execOp F.eval o).run P W=.ok (.value v) W:=by unfold execOp;go_simp) :
 (Region.wanted o (yielded ops F.tmps)=true->o.wp P F W K Q)/\(Region.wanted o (yielded ops F.tmps)=false->Y):=vn hk hg h
theorem vlo (hk:K (F.put o.dst v) W:=by first|exact⟨_,rfl,rfl,hGW,hrefl W⟩|exact⟨_,rfl,rfl,hGW,trivial⟩) (h:(execOp F.eval o).run P W=.ok (.value v) W:=by unfold execOp;go_simp;all_goals first|omega|exact IntWalk.i64_in _ (by omega)):o.wp P F W K Q:=vl hk h
theorem vno (hk:K (F.put o.dst v) W:=by first|exact⟨_,rfl,rfl,hGW,hrefl W⟩|exact⟨_,rfl,rfl,hGW,trivial⟩) (hg:o.guard=none:=by rfl) (h:(execOp F.eval o).run P W=.ok (.value v) W:=by unfold execOp;go_simp;all_goals first|omega|exact IntWalk.i64_in _ (by omega)) :
 (Region.wanted o (yielded ops F.tmps)=true->o.wp P F W K Q)/\(Region.wanted o (yielded ops F.tmps)=false->Y):=vn hk hg h
section
variable {i:Nat} {X:Nat->Prop}
section
variable (j:Nat) (t:Tmp)
include j t
theorem nq (hat:Hid (∀ (j:Nat) (t:Tmp),j<ops.size->dstAt ops j=some t->F.eval (.tmp t)=U j):=by exact qa) (hp:Hid (∀ j,j<i->X j):=by exact qb) (h1:j<ops.size:=by exact kd) (h2:dstAt ops j=some t:=by kernel_rfl) (h3:j<i:=by omega) (h4:X j->U j=v:=by exact id):F.tmps[t]?.getD undef=v:=act_tmp (nv hat hp j t h1 h2 h3 h4)
theorem ny (hat:Hid (∀ (j:Nat) (t:Tmp),j<ops.size->dstAt ops j=some t->F.eval (.tmp t)=U j):=by exact qa) (hp:Hid (∀ j,j<i->X j):=by exact qb) (h1:j<ops.size:=by exact kd) (h2:dstAt ops j=some t:=by kernel_rfl) (h3:j<i:=by omega) (h4:X j->U j=v:=by intro h;rewrite [q0] at h;exact h):F.tmps[t]?.getD undef=v:=act_tmp (nv hat hp j t h1 h2 h3 h4)
theorem nz (hat:Hid (∀ (j:Nat) (t:Tmp),j<ops.size->dstAt ops j=some t->F.eval (.tmp t)=U j):=by exact qa) (hp:Hid (∀ j,j<i->X j):=by exact qb) (h1:j<ops.size:=by exact kd) (h2:dstAt ops j=some t:=by kernel_rfl) (h3:j<i:=by omega) (h4:X j->U j=v:=by intro h;rewrite [qp] at h;exact h):F.tmps[t]?.getD undef=v:=act_tmp (nv hat hp j t h1 h2 h3 h4)
theorem onx (h:o.wp P F W K Q) (hat:Hid (∀ (j:Nat) (t:Tmp),j<ops.size->dstAt ops j=some t->F.eval (.tmp t)=U j):=by exact qa) (hp:Hid (∀ j,j<i->X j):=by exact qb) (hg:o.guard=some (j,b):=by rfl) (h1:j<ops.size:=by exact kd) (h2:dstAt ops j=some t:=by kernel_rfl) (h3:j<i:=by omega) (h4:X j->U j=.bool b:=by exact id) :
 (Region.wanted o (yielded ops F.tmps)=true->o.wp P F W K Q)/\(Region.wanted o (yielded ops F.tmps)=false->Y):=onb (nv hat hp j t h1 h2 h3 h4) h hg h2
theorem ofx (hat:Hid (∀ (j:Nat) (t:Tmp),j<ops.size->dstAt ops j=some t->F.eval (.tmp t)=U j):=by exact qa) (hp:Hid (∀ j,j<i->X j):=by exact qb) (hg:o.guard=some (j,b):=by rfl) (h1:j<ops.size:=by exact kd) (h2:dstAt ops j=some t:=by kernel_rfl) (h3:j<i:=by omega) (h4:X j->U j=.bool c:=by exact id) (hc:(c==b)=false:=by rfl) (h:Y:=by rfl) :
 (Region.wanted o (yielded ops F.tmps)=true->o.wp P F W K Q)/\(Region.wanted o (yielded ops F.tmps)=false->Y):=offb (nv hat hp j t h1 h2 h3 h4) h hg h2 hc
theorem ufx (hat:Hid (∀ (j:Nat) (t:Tmp),j<ops.size->dstAt ops j=some t->F.eval (.tmp t)=U j):=by exact qa) (hp:Hid (∀ j,j<i->X j):=by exact qb) (hg:o.guard=some (j,b):=by rfl) (h1:j<ops.size:=by exact kd) (h2:dstAt ops j=some t:=by kernel_rfl) (h3:j<i:=by omega) (h4:X j->U j=undef:=by exact id) (h:Y:=by rfl) :
 (Region.wanted o (yielded ops F.tmps)=true->o.wp P F W K Q)/\(Region.wanted o (yielded ops F.tmps)=false->Y):=off_ (W:=W) (wanted_undef hg h2 (nv hat hp j t h1 h2 h3 h4)) h
theorem ony (h:o.wp P F W K Q) (hat:Hid (∀ (j:Nat) (t:Tmp),j<ops.size->dstAt ops j=some t->F.eval (.tmp t)=U j):=by exact qa) (hp:Hid (∀ j,j<i->X j):=by exact qb) (hg:o.guard=some (j,b):=by rfl) (h1:j<ops.size:=by exact kd) (h2:dstAt ops j=some t:=by kernel_rfl) (h3:j<i:=by omega) (h4:X j->U j=.bool b:=by intro h;rw [q0] at h;exact h) :
 (Region.wanted o (yielded ops F.tmps)=true->o.wp P F W K Q)/\(Region.wanted o (yielded ops F.tmps)=false->Y):=onb (nv hat hp j t h1 h2 h3 h4) h hg h2
theorem ofy (hat:Hid (∀ (j:Nat) (t:Tmp),j<ops.size->dstAt ops j=some t->F.eval (.tmp t)=U j):=by exact qa) (hp:Hid (∀ j,j<i->X j):=by exact qb) (hg:o.guard=some (j,b):=by rfl) (h1:j<ops.size:=by exact kd) (h2:dstAt ops j=some t:=by kernel_rfl) (h3:j<i:=by omega) (h4:X j->U j=.bool c:=by intro h;rw [q0] at h;exact h) (hc:(c==b)=false:=by rfl) (h:Y:=by rfl) :
 (Region.wanted o (yielded ops F.tmps)=true->o.wp P F W K Q)/\(Region.wanted o (yielded ops F.tmps)=false->Y):=offb (nv hat hp j t h1 h2 h3 h4) h hg h2 hc
theorem ufy (hat:Hid (∀ (j:Nat) (t:Tmp),j<ops.size->dstAt ops j=some t->F.eval (.tmp t)=U j):=by exact qa) (hp:Hid (∀ j,j<i->X j):=by exact qb) (hg:o.guard=some (j,b):=by rfl) (h1:j<ops.size:=by exact kd) (h2:dstAt ops j=some t:=by kernel_rfl) (h3:j<i:=by omega) (h4:X j->U j=undef:=by intro h;rw [q0] at h;exact h) (h:Y:=by rfl) :
 (Region.wanted o (yielded ops F.tmps)=true->o.wp P F W K Q)/\(Region.wanted o (yielded ops F.tmps)=false->Y):=off_ (W:=W) (wanted_undef hg h2 (nv hat hp j t h1 h2 h3 h4)) h
end
end
end
section
variable {P:Program} {ops:Array Oper} {F a:Act}
section
variable {x y:Nat}
theorem oo (t:Tmp) (v:Value) (hf:∀ t:Tmp,(∀ j,j<ops.size->dstAt ops j≠some t)->F.eval (.tmp t)=a.eval (.tmp t):=by exact hoff) (h1:∀ j,j<ops.size->dstAt ops j≠some t:=by exact kd) (h:a.eval (.tmp t)=v:=by rfl):F.eval (.tmp t)=v:=(hf t h1).trans h
theorem ot (t:Tmp) (v:Value) (hf:∀ t:Tmp,(∀ j,j<ops.size->dstAt ops j≠some t)->F.eval (.tmp t)=a.eval (.tmp t):=by exact hoff) (h1:∀ j,j<ops.size->dstAt ops j≠some t:=by exact kd) (h:a.eval (.tmp t)=v:=by rfl):F.tmps[t]?.getD undef=v:=act_tmp ((hf t h1).trans h)
theorem ow (t:Tmp) (E:Hid (x=y)) (hf:∀ t:Tmp,(∀ j,j<ops.size->dstAt ops j≠some t)->F.eval (.tmp t)=a.eval (.tmp t):=by exact hoff) (h1:∀ j,j<ops.size->dstAt ops j≠some t:=by exact kd) (h:a.eval (.tmp t)=.pointer (some ⟨y,0,none⟩):=by rfl):F.eval (.tmp t)=.pointer (some ⟨x,0,none⟩):=(hf t h1).trans (E.out▸h)
end
end
end Go.Proofs.Ytaipgdhdfpemcaa
