/- THE WALKS OF THE LANE, part 5. -/
import Derived.Test.YtaipgdhdfpemcaaF3
import Derived.Test.YtaipgdhdfpemcaaF4
namespace Go.Proofs.Ytaipgdhdfpemcaa
set_option linter.all false
open Go.RowKit Go.Proofs.Try
set_option maxRecDepth 100000
set_option maxHeartbeats 4000000
section
variable {P:Program} (w:World)
section
variable {a:Act} {K:Act->World->Prop} {ops:Array Oper} {rest:List Oper} {o:Oper} {Q:Z}
section
variable (base:Nat) (t ty e:TypeId) (i:TypeInfo)
include base t ty e i
theorem run_append_of_nil (size:Nat) (ht:P.underlying t=some (.slice e)) (hi:P.info? e=some i) (v:Value) (n:Nat) (xs:List Value) (hown:w.ownsRow base e size v n xs) (c:Nat):(Builtin.append_ #[t,t] ty #[v,.slice none 0 c]).run P w=.ok v w:=by
 rcases hown.2 with ⟨rfl,rfl⟩|⟨g,cap,cur,rfl,_,_,hnc,_⟩
 ·simp [Builtin.append_,run_underlying ht,sizeOf,typeInfo,hi,Builtin.lenOf,Builtin.firstCells]
 ·simp [Builtin.append_,run_underlying ht,sizeOf,typeInfo,hi,Builtin.lenOf,Builtin.firstCells,hnc,storeCells]
theorem run_append_any (z:Value) (size bytes:Nat) (ht:P.underlying t=some (.slice e)) (hi:P.info? e=some i) (hz:i.zero=some z) (hsize:i.size=size) (hby:i.bytes=bytes) (hzs:z.cells.size=size) (hsz:0<size) (v:Value) (n:Nat) (xs:List Value) (hown:w.ownsRow base e size v n xs) (B:Nat) (A:O) (m c:Nat) (news:List Value) (hr:Reads w B size A m news) (h1:∀ u∈news,u.oneCell'=true) (h63:n+m<=maxLen) (hbytes:(n+m)*bytes<=140737488355328) (hbase:base<=w) :
 ∃ v' w',(Builtin.append_ #[t,t] ty #[v,.slice A m c]).run P w=.ok v' w'/\w'.ownsRow base e size v' (n+m) (xs++news)/\w.grownBy w' v.ownBlock/\
  (v'.ownBlock=v.ownBlock\/v'.ownBlock=some w.heap.size):=by
 rcases A with _|ad
 ·have hm : m = 0 := by
   rcases Nat.eq_zero_or_pos m with h0|h0
   ·exact h0
   ·obtain⟨ad,h,_⟩:=hr.2 h0
    cases h
  subst hm
  have hn:news=[]:=List.eq_nil_of_length_eq_zero (by simpa using hr.1)
  subst hn
  exact⟨v,w,run_append_of_nil w base t ty e i size ht hi v n xs hown c,by simpa using hown,World.grownBy.refl w _,.inl rfl⟩
 ·have hcells : ∀ j u, news[j]? = some u -> w.cell? (ad.add j) = some u := by
   intro j u hu
   rcases Nat.eq_zero_or_pos m with h0|h0
   ·subst h0
    have hn:news=[]:=List.eq_nil_of_length_eq_zero (by simpa using hr.1)
    subst hn
    simp at hu
   ·obtain⟨ad',h,_,hc⟩:=hr.2 h0
    injection h with h
    subst h
    exact hc j u hu
  obtain⟨v',w',hrun,h2,h3,_,h5⟩:=run_append_own_at (P:=P) w base t ty e i z size bytes ht hi hz hsize hby hzs hsz v n xs hown ad m c news hr.1 hcells h1 h63 hbytes hbase
  exact⟨v',w',hrun,h2,h3,h5⟩
end
theorem wp_append_any (s x:Operand) (t:TypeId) (ho:o.op=.call {callee:=.builtin .append,args:=#[s,x],argTypes:=#[t,t]}) (base:Nat) (e:TypeId) (i:TypeInfo) (z:Value) (size bytes:Nat) (ht:P.underlying t=some (.slice e)) (hi:P.info? e=some i) (hz:i.zero=some z) (hsize:i.size=size) (hby:i.bytes=bytes) (hzs:z.cells.size=size) (hsz:0<size) (v:Value) (n:Nat) (xs:List Value) (hs:a.eval s=v) (hown:w.ownsRow base e size v n xs) (B:Nat) (A:O) (m c:Nat) (news:List Value) (hx:a.eval x=.slice A m c) (hr:Reads w B size A m news) (h1:∀ u∈news,u.oneCell'=true) (h63:n+m<=maxLen) (hbytes:(n+m)*bytes<=140737488355328) (hbase:base<=w) (h:∀ v' w',w'.ownsRow base e size v' (n+m) (xs++news)->w.grownBy w' v.ownBlock->(v'.ownBlock=v.ownBlock\/v'.ownBlock=some w.heap.size)->K (a.put o.dst v') w'):o.wp P a w K Q:=by
 obtain⟨v',w',hrun,h2,h3,h4⟩:=run_append_any (P:=P) w base t o.type e i z size bytes ht hi hz hsize hby hzs hsz v n xs hown B A m c news hr h1 h63 hbytes hbase
 unfold Oper.wp execOp
 simp only [ho,resolve,invoke,builtin,Sem.run_bind,Sem.run_pure,Result.andThen_ok,List.map_toArray,List.map_cons,List.map_nil,hs,hx,hrun]
 exact h v' w' h2 h3 h4
theorem wpList_append_any (hgd:o.guard=none) (s x:Operand) (t:TypeId) (ho:o.op=.call {callee:=.builtin .append,args:=#[s,x],argTypes:=#[t,t]}) (base:Nat) (e:TypeId) (i:TypeInfo) (z:Value) (size bytes:Nat) (ht:P.underlying t=some (.slice e)) (hi:P.info? e=some i) (hz:i.zero=some z) (hsize:i.size=size) (hby:i.bytes=bytes) (hzs:z.cells.size=size) (hsz:0<size) (v:Value) (n:Nat) (xs:List Value) (hs:a.eval s=v) (hown:w.ownsRow base e size v n xs) (B:Nat) (A:O) (m c:Nat) (news:List Value) (hx:a.eval x=.slice A m c) (hr:Reads w B size A m news) (h1:∀ u∈news,u.oneCell'=true) (h63:n+m<=maxLen) (hbytes:(n+m)*bytes<=140737488355328) (hbase:base<=w) (h:∀ v' w',w'.ownsRow base e size v' (n+m) (xs++news)->w.grownBy w' v.ownBlock->(v'.ownBlock=v.ownBlock\/v'.ownBlock=some w.heap.size)->wpList P ops Q rest (a.put o.dst v') w'):wpList P ops Q (o::rest) a w:=
 wpList_plain hgd fun _ hK=>wp_append_any w s x t ho base e i z size bytes ht hi hz hsize hby hzs hsz v n xs hs hown B A m c news hx hr h1 h63 hbytes hbase fun v' w' h2 h3 h4=>hK _ _ (h v' w' h2 h3 h4)
end
end
section
variable {xs:List Value} {base n size:Nat} {e:TypeId} {v:Value} {w:World}
theorem own_empty (w:World) (t:TypeId) (size:Nat):(w.alloc (.cells #[] t)).ownsRow w.heap.size t size (.slice (some ⟨w.heap.size,0,none⟩) 0 0) 0 []:=
 ⟨by simp,.inr ⟨w.heap.size,0,#[],rfl,Nat.le_refl _,heap_alloc_new w _,Nat.le_refl _,Nat.zero_le _,by simp,by simp⟩⟩
theorem own_slice (h:w.ownsRow base e size v n xs):∃ A c,v=.slice A n c/\n<=c/\c<=maxLen/\Reads w w.heap.size size A n xs:=by
 have h0:=h
 rcases h.2 with ⟨rfl,rfl⟩|⟨g,cap,cur,rfl,_,_,hn,hm,_⟩
 ·exact⟨none,0,rfl,Nat.le_refl _,Nat.zero_le _,Reads.of_own (c:=0) h0⟩
 ·exact⟨some ⟨g,0,none⟩,cap,rfl,hn,hm,Reads.of_own (c:=cap) h0⟩
theorem strV_one (ss:List ByteArray):∀ u∈strV ss,u.oneCell'=true:=by
 intro u hu
 simp only [strV,List.mem_map] at hu
 obtain⟨s,_,rfl⟩:=hu
 rfl
end
structure Opd where
 n:Int
 epoch:Int
 kind:Int
 site:Int
 client:Int
 seq:Int
 name:ByteArray
 size:Int
 hA:Option Addr
 hn:Nat
 hc:Nat
def Opd.cells (o:Opd):List Value:=[.int .i64 o.n,.int .i64 o.epoch,.int .i64 o.kind,.int .i64 o.site,.int .i64 o.client,.int .i64 o.seq,.string o.name,.int .i64 o.size,.slice o.hA o.hn o.hc]
def opsV (os:List Opd):List Value:=os.flatMap Opd.cells
theorem opsV_len (os:List Opd):(opsV os).length=os.length*9:=by
 induction os with
 | nil=>rfl
 | cons o l ih=>simp only [opsV,List.flatMap_cons,List.length_append,List.length_cons] at ih ⊢;rw [ih];simp [Opd.cells];omega
theorem opsV_at (os:List Opd) (k j:Nat) (o:Opd) (h:os[k]? = some o) (hj:j<9):(opsV os)[9*k+j]? = o.cells[j]?:=by
 induction os generalizing k with
 | nil=>simp at h
 | cons a l ih=>
  have e:opsV (a::l)=a.cells++opsV l:=rfl
  rw [e]
  rcases k with _|k
  ·simp only [List.getElem?_cons_zero,Option.some.injEq] at h
   subst h
   rw [List.getElem?_append_left (by simp [Opd.cells];omega),Nat.mul_zero,Nat.zero_add]
  ·rw [List.getElem?_append_right (by simp [Opd.cells];omega)]
   have e2:9*(k+1)+j-a.cells.length=9*k+j:=by simp [Opd.cells];omega
   rw [e2]
   exact ih k (by simpa using h)
def OpAt (w:World) (b:Addr) (o:Opd):Prop:=
 w.cell? b=some (.int .i64 o.n)/\w.cell? {block:=b.block,off:=b.off+1,spot:=none}=some (.int .i64 o.epoch)/\w.cell? {block:=b.block,off:=b.off+2,spot:=none}=some (.int .i64 o.kind)/\w.cell? {block:=b.block,off:=b.off+3,spot:=none}=some (.int .i64 o.site)/\w.cell? {block:=b.block,off:=b.off+4,spot:=none}=some (.int .i64 o.client)/\w.cell? {block:=b.block,off:=b.off+5,spot:=none}=some (.int .i64 o.seq)/\w.cell? {block:=b.block,off:=b.off+6,spot:=none}=some (.string o.name)/\w.cell? {block:=b.block,off:=b.off+7,spot:=none}=some (.int .i64 o.size)/\w.cell? {block:=b.block,off:=b.off+8,spot:=none}=some (.slice o.hA o.hn o.hc)
section
variable {b:Addr} {os:List Opd} {B g k n:Nat} {A:O} {o:Opd} {t:TypeId} {a:Value} {W w w':World}
theorem OpAt.below (h:OpAt w b o) (hb:Below B w w') (hB:b.block<B):OpAt w' b o:=by
 unfold OpAt at h ⊢
 have e:=fun (p:Addr) (hp:p.block<B)=>hb.cell hp
 rw [e b hB,e _ (show ({block:=b.block,off:=b.off+1,spot:=none}:Addr).block<B from hB),e _ (show ({block:=b.block,off:=b.off+2,spot:=none}:Addr).block<B from hB),e _ (show ({block:=b.block,off:=b.off+3,spot:=none}:Addr).block<B from hB),e _ (show ({block:=b.block,off:=b.off+4,spot:=none}:Addr).block<B from hB),e _ (show ({block:=b.block,off:=b.off+5,spot:=none}:Addr).block<B from hB),e _ (show ({block:=b.block,off:=b.off+6,spot:=none}:Addr).block<B from hB),e _ (show ({block:=b.block,off:=b.off+7,spot:=none}:Addr).block<B from hB),e _ (show ({block:=b.block,off:=b.off+8,spot:=none}:Addr).block<B from hB)]
 exact h
theorem add_pos (b:Addr) (j:Nat) (hj:0<j):b.add j={block:=b.block,off:=b.off+j,spot:=none}:=by
 unfold Addr.add;rw [if_neg (by omega)]
section
variable (h:Reads w B 9 A n (opsV os))
include h
theorem op_at (hk:k<n) :
 ∃ ad o,A=some ad/\(ad.add (k*9)).block<B/\os[k]? = some o/\OpAt w (ad.add (k*9)) o:=by
 obtain⟨ad,e,hb,hc⟩:=h.2 (by omega)
 have hl:os.length=n:=by have:=h.1;rw [opsV_len] at this;omega
 obtain⟨o,ho⟩:∃ o,os[k]? = some o:=⟨_,List.getElem?_eq_getElem (by omega)⟩
 refine⟨ad,o,e,by rw [block_of_add];exact hb,ho,?_⟩
 have hj:∀ j u,j<9->o.cells[j]? = some u->w.cell? ((ad.add (k*9)).add j)=some u:=by
  intro j u hj hu
  have h1:=opsV_at os k j o ho hj
  rw [hu] at h1
  rw [add_of_add]
  have e2:k*9+j=9*k+j:=by omega
  rw [e2]
  exact hc _ u h1
 have h0:=hj 0 _ (by omega) rfl
 have h1:=hj 1 _ (by omega) rfl
 rw [add_pos _ _ (by omega)] at h1
 have h2:=hj 2 _ (by omega) rfl
 rw [add_pos _ _ (by omega)] at h2
 have h3:=hj 3 _ (by omega) rfl
 rw [add_pos _ _ (by omega)] at h3
 have h4:=hj 4 _ (by omega) rfl
 rw [add_pos _ _ (by omega)] at h4
 have h5:=hj 5 _ (by omega) rfl
 rw [add_pos _ _ (by omega)] at h5
 have h6:=hj 6 _ (by omega) rfl
 rw [add_pos _ _ (by omega)] at h6
 have h7:=hj 7 _ (by omega) rfl
 rw [add_pos _ _ (by omega)] at h7
 have h8:=hj 8 _ (by omega) rfl
 rw [add_pos _ _ (by omega)] at h8
 have e0:(ad.add (k*9)).add 0=ad.add (k*9):=rfl
 rw [e0] at h0
 exact⟨h0,h1,h2,h3,h4,h5,h6,h7,h8⟩
theorem ops_len:os.length=n:=by
 have:=h.1;rw [opsV_len] at this;omega
end
theorem spot_any (a1 a2 a3 a4 a5 a6:Int) (a7:ByteArray) (a8:Int) (a9:Value) (w:World) :
 Calls prog 59 #[.agg #[a1,a2,a3,a4,a5,a6,.string a7,a8,a9]] w fun x w'=>x=.returned (.agg #[a1,a2])/\Below w w w':=by
 go_enter func59,ntmps59
 go_wp2
 refine bodyPost_ret (v:=.agg #[a1,a2]) (by simp [results,results59,go_sem]) rfl ?_
 exact Y107
theorem set2 {b:Value} (h:Blk W g t #[a,b]) (x y:Value):Blk ((W.setCell ⟨g,0,none⟩ x).setCell ⟨g,1,none⟩ y) g t #[x,y]:=(h.set_ 0 x).set_ 1 y
end
def lastOf (oN oE:Int) (os:List Opd):Int×Int:=match os.getLast? with
 | none=>(oN,oE)
 | some o=>(o.n,o.epoch)
section
variable {xs:List Value} {b base n o size:Nat} {e:TypeId} {v:Value} {w:World}
theorem last_any (oN oE:Int) (A:O) (n c:Nat) (os:List Opd) (w:World) (h:Reads w w.heap.size 9 A n (opsV os)) (hn:n<=4294967296) :
 Calls prog 60 #[.agg #[oN,oE],.slice A n c] w fun x w'=>x=.returned (.agg #[.int .i64 (lastOf oN oE os).1,.int .i64 (lastOf oN oE os).2])/\Below w w w':=by
 have hlen:=ops_len h
 rcases Nat.eq_zero_or_pos n with h0|h0
 ·subst h0
  obtain rfl:os=[]:=List.eq_nil_of_length_eq_zero hlen
  clear h hlen
  go_enter func60,ntmps60
  go_wp2
  refine bodyPost_ret (v:=.agg #[oN,oE]) (by simp [results,results60,go_sem]) rfl ?_
  exact Y107
 ·have hb0:Below w w ((w.alloc (.cells #[oN,oE] 26)).alloc (.cells #[.int .i64 0,.int .i64 0] 26)):=((Below.refl _ _).alloc (Nat.le_refl _) _).alloc (by simp) _
  obtain⟨ad,o,rfl,hab,ho,hop⟩:=op_at h (k:=n-1) (by omega)
  have hop2:=hop.below hb0 hab
  have hlast:lastOf oN oE os=(o.n,o.epoch):=by
   unfold lastOf
   rw [List.getLast?_eq_getElem?,hlen,ho]
  rw [hlast]
  obtain⟨k0,k1,k2,k3,k4,k5,k6,k7,k8⟩:=hop2
  have HB0:=J hb0
  clear h hop hb0 hlast ho hlen
  go_enter func60,ntmps60
  go_wp2_with fail
  refine (spot_any _ _ _ _ _ _ _ _ _ _).mono ?_
  rintro x w1 ⟨rfl,hb1⟩
  have hres:Blk ((w.alloc (.cells #[oN,oE] 26)).alloc (.cells #[.int .i64 0,.int .i64 0] 26)) (w.heap.size+1) 26 #[.int .i64 0,.int .i64 0]:=by
   have:=Blk.new (w.alloc (.cells #[oN,oE] 26)) 26 #[.int .i64 0,.int .i64 0]
   simpa using this
  have hr1:=hres.below hb1 hres.lt
  have f0:=hr1.frozen
  obtain⟨d0,d1⟩:=hr1.cs 0 2
  have HR1:=J hr1
  have HB1:=J (HB0.out.trans (hb1.mono HB0.out.size))
  clear hb1 hres hr1 k0 k1 k2 k3 k4 k5 k6 k7 k8
  go_wp2
  have e0:=(set2 HR1.out (.int .i64 o.n) (.int .i64 o.epoch)).cell 0
  have e1:=(set2 HR1.out (.int .i64 o.n) (.int .i64 o.epoch)).cell 1
  refine bodyPost_ret (v:=.agg #[.int .i64 o.n,o.epoch]) (by simp [results,results60,e0,e1,go_sem]) rfl ?_
  exact⟨rfl,(HB1.out.setCell (p:=⟨_,0,none⟩) (by simp) _).setCell (p:=⟨_,1,none⟩) (by simp) _⟩
theorem Try.infoOp:(prog.info? 45).map (fun i=>(i.zero,i.size,i.bytes))=some (some (.agg #[.int .i64 0,.int .i64 0,.int .i64 0,.int .i64 0,.int .i64 0,.int .i64 0,.string ⟨#[]⟩,.int .i64 0,.slice none 0 0]),9,96):=by kernel_rfl
theorem opsV_one (os:List Opd):∀ u∈opsV os,u.oneCell'=true:=by
 intro u hu
 simp only [opsV,List.mem_flatMap,Opd.cells] at hu
 obtain⟨o,_,ho⟩:=hu
 simp only [List.mem_cons,List.not_mem_nil,or_false] at ho
 rcases ho with rfl|rfl|rfl|rfl|rfl|rfl|rfl|rfl|rfl<;>rfl
theorem own_blk (h:w.ownsRow base e size v n xs) (hat:v.ownBlock=some o\/v.ownBlock=some b) :
 ∃ g c cur,v=.slice (some ⟨g,0,none⟩) n c/\n<=c/\c<=maxLen/\base<=g/\Blk w g e cur/\Reads w w.heap.size size (some ⟨g,0,none⟩) n xs:=by
 have h0:=h
 rcases h.2 with ⟨rfl,rfl⟩|⟨g,cap,cur,rfl,hg,hh,hn,hm,_⟩
 ·rcases hat with hat|hat<;>simp [Value.ownBlock] at hat
 ·exact⟨g,cap,cur,rfl,hn,hm,hg,hh,Reads.of_own (c:=cap) h0⟩
theorem cloneOps_some (ad:Addr) (n c:Nat) (os:List Opd) (w:World) (h:Reads w w.heap.size 9 (some ad) n (opsV os)) (hn:n<=4294967296) :
 Calls prog 98 #[.slice (some ad) n c] w fun x w'=>∃ g c' cur,x=.returned (.slice (some ⟨g,0,none⟩) n c')/\n<=c'/\c'<=maxLen/\w.heap.size<=g/\Blk w' g 45 cur/\Reads w' w'.heap.size 9 (some ⟨g,0,none⟩) n (opsV os)/\Below w w w':=by
 have HR:=J h
 clear h
 obtain⟨i0,hi0,hz0,hz1,hz2⟩:=info_parts Try.infoOp
 obtain⟨HI,HZ0,HZ1,HZ2⟩:=J4 hi0 hz0 hz1 hz2
 clear hi0 hz0 hz1 hz2
 have q:∀ (w:World),(binOp .eql 28 (.slice (some ad) n c) (.slice none 0 0)).run prog w=.ok (.bool false) w:=fun w=>Lib.run_eql_slice_nil w _ _ (some ad) n c 0 0 underlying28
 go_enter func98,ntmps98
 go_wp2_with (at_builtin;refine wpList_append_any _ rfl (.tmp 5) (.tmp 6) _ rfl w.heap.size 45 i0 _ 9 96 underlying28 HI.out HZ0.out HZ1.out HZ2.out rfl (by omega) (.slice (some ⟨w.heap.size,0,none⟩) 0 0) 0 [] rfl (own_empty w _ 9) w.heap.size (some ad) n c (opsV os) rfl (HR.out.alloc (Nat.le_refl _) _) (opsV_one os) ?c1 ?c2 ?c3 ?_)
 case c1=>unfold maxLen;omega
 case c2=>omega
 case c3=>simp
 intro v1 w2 hown hg hat
 try simp only [Nat.zero_add,List.nil_append] at hown
 have hb2:Below w w w2:=((Below.refl _ _).alloc (Nat.le_refl _) _).grown hg (by simp) (by intro k hk;simp [Value.ownBlock] at hk;omega)
 obtain⟨g1,c1,cur,rfl,hc1,hcm,hg1,hbk,hrd⟩:=own_blk hown hat
 obtain⟨HB,HD,HK⟩:=J3 hb2 hrd hbk
 clear hown hg hat hrd hb2 hbk
 go_wp2
 go_ret
 exact⟨_,_,cur,rfl,hc1,hcm,hg1,HK.out,HD.out,HB.out⟩
theorem cloneStr_nil (w:World):Calls prog 99 #[.slice none 0 0] w fun x w'=>x=.returned (.slice none 0 0)/\w'=w:=by
 go_enter func99,ntmps99
 have q:∀ (w:World),(binOp .eql 24 (.slice none 0 0) (.slice none 0 0)).run prog w=.ok (.bool true) w:=fun w=>Lib.run_eql_slice_nil w _ _ none 0 0 0 0 underlying24
 exact Y222
theorem copied_bare (ad:Addr) (n c:Nat) (os:List Opd) (w:World) (h:Reads w w.heap.size 9 (some ad) n (opsV os)) (hn:n<=4294967296) (hh:∀ o∈os,o.hA=none/\o.hn=0/\o.hc=0) :
 Calls prog 62 #[.slice (some ad) n c] w fun x w'=>∃ g c',x=.returned (.slice (some ⟨g,0,none⟩) n c')/\n<=c'/\w.heap.size<=g/\g<w'/\Below w w w':=by
 obtain⟨HH,HR⟩:=J2 hh h
 clear h hh
 go_enter func62,ntmps62
 go_wp2_with fail
 refine (cloneOps_some ad n c os w HR.out hn).mono ?_
 rintro x w1 ⟨g,c',cur,rfl,hc1,hcm,hg,hbk,hrd,hb⟩
 have hlen:=ops_len hrd
 have hcur:∀ k,k<n->cur[k*9+7+1]? = some (.slice none 0 0):=by
  intro k hk
  obtain⟨ad2,o,e,_,ho,hop⟩:=op_at hrd hk
  injection e with e
  subst e
  obtain⟨_,_,_,_,_,_,_,_,k8⟩:=hop
  obtain⟨e1,e2,e3⟩:=HH.out o (List.mem_of_getElem? ho)
  rw [e1,e2,e3] at k8
  have e:({block:=((⟨g,0,none⟩:Addr).add (k*9)).block,off:=((⟨g,0,none⟩:Addr).add (k*9)).off+8,spot:=none}:Addr)=⟨g,k*9+7+1,none⟩:=by
   unfold Addr.add
   by_cases hz:k*9=0
   ·rw [if_pos hz,hz]
   ·rw [if_neg hz];simp
  rw [e,hbk.cell] at k8
  exact k8
 have HB:=J hb
 clear hrd hb
 unfold maxLen at hcm
 go_wp2_with fail
 go_loopw [9] (fun i wr=>∃ (k:Nat) (cu:Array Value),k<=n/\i=.int .i64 k/\Blk wr g 45 cu/\(∀ k,k<n->cu[k*9+7+1]? = some (.slice none 0 0))/\Below w w wr) (fun i _=>n-(intOf i).toNat)
 case atStart=>exact⟨0,cur,by omega,rfl,hbk,hcur,HB.out⟩
 case round=>
  obtain⟨k,cu,hk,rfl,hbk,hcu,hb⟩:=hrel
  rcases Nat.lt_or_ge k n with hk1|hk1
  ·have d8:=hbk.cell (k*9+7+1)
   rw [hcu k hk1] at d8
   have f8:=hbk.frozen (k*9+7+1)
   obtain⟨HCU,HBK,HB2⟩:=J3 hcu hbk hb
   clear hcu hbk hb
   go_wp2_with fail
   refine (cloneStr_nil wr).mono ?_
   rintro x w3 ⟨rfl,rfl⟩
   go_wp2
   go_roundw
   case rel=>
    refine⟨k+1,cu.setIfInBounds (k*9+7+1) (.slice none 0 0),by omega,by go_num,HBK.out.set_ _ _,?_,HB2.out.setCell (p:=⟨g,_,none⟩) hg _⟩
    intro j hj
    have h1:=HCU.out j hj
    by_cases hjk:j=k
    ·subst hjk
     have h2:=(Array.getElem?_eq_some_iff.1 h1).1
     simp [h2]
    ·rw [Array.getElem?_setIfInBounds_ne (by omega)]
     exact h1
   case measure=>simp [intOf];omega
  ·obtain rfl:n=k:=by omega
   have hlt:=hbk.lt
   have HB2:=J hb
   clear hcu hbk hb
   go_wp2
   go_ret
   exact⟨g,c',rfl,hc1,hg,hlt,HB2.out⟩
theorem epochs_any (A:O) (n c:Nat) (os:List Opd) (w:World) (h:Reads w w.heap.size 9 A n (opsV os)) (hn:n<=4294967296) :
 Calls prog 56 #[.slice A n c] w fun x w'=>∃ g,x=.returned (.slice (some ⟨g,0,none⟩) n n)/\Reads w' w'.heap.size 1 (some ⟨g,0,none⟩) n (intV .i64 (os.map (·.epoch)))/\Below w w w':=by
 have hlen:=ops_len h
 obtain⟨HR,HL⟩:=J2 h hlen
 clear h hlen
 have hmk:=run_make_row' (P:=prog) 27 3 (.int .i64 0) 8 underlying27 Try.infoInt rfl .i64 .i64 n (w:=w) (by omega) (by omega)
 go_enter func56,ntmps56
 go_wp2_with fail
 have hbk:=Blk.new w 3 (madeCells #[.int .i64 0] n)
 have hb0:Below w w (w.alloc (.cells (madeCells #[.int .i64 0] n) 3)):=(Below.refl _ _).alloc (Nat.le_refl _) _
 obtain⟨W,hW⟩:∃ W,W=w.alloc (.cells (madeCells #[.int .i64 0] n) 3):=⟨_,rfl⟩
 rw [<-hW]
 rw [<-hW] at hb0 hbk
 have hsz:(madeCells #[.int .i64 0] n).size=n:=by simp [madeCells]
 obtain⟨c0,hc0⟩:∃ c0,c0=madeCells #[.int .i64 0] n:=⟨_,rfl⟩
 rw [<-hc0] at hbk hsz
 obtain⟨HB0,HBK⟩:=J2 hb0 hbk
 clear hW hc0 hmk hb0 hbk
 go_loopw [11] (fun i wr=>∃ (k:Nat) (cu:Array Value),k<=n/\i=.int .i64 k/\cu.size=n/\Blk wr w 3 cu/\(∀ j,j<k->cu[j]? = (intV .i64 (os.map (·.epoch)))[j]?)/\Below w w wr) (fun i _=>n-(intOf i).toNat)
 case atStart=>exact⟨0,c0,by omega,rfl,hsz,HBK.out,fun j hj=>absurd hj (by omega),HB0.out⟩
 case round=>
  obtain⟨k,cu,hk,rfl,hcs,hbk,hcu,hb⟩:=hrel
  obtain⟨HCU,HBK,HB,HCS⟩:=J4 hcu hbk hb hcs
  clear hcu hbk hb hcs hsz
  rcases Nat.lt_or_ge k n with hk1|hk1
  ·obtain⟨ad,o,rfl,hab,ho,hop⟩:=op_at (HR.out.below HB.out) hk1
   exact Y22
  ·obtain rfl:n=k:=by omega
   go_wp2
   go_ret
   refine⟨w.heap.size,rfl,⟨by simp [intV,HL.out],fun _=>⟨_,rfl,HBK.out.lt,fun j u hu=>?_⟩⟩,HB.out⟩
   exact Y82
end
def part:List Nat->Code->Code
 | [],c=>c
 | 0::p,.seq a _=>part p a
 | _::p,.seq _ b=>part p b
 | 0::p,.cond _ a _=>part p a
 | _::p,.cond _ _ b=>part p b
 | _::p,.block _ c=>part p c
 | _::p,.loop c=>part p c
 | _::p,.scope c=>part p c
 | _::_,c=>c
def opsOf:Code->List Oper
 | .region _ ops _=>ops.toList
 | _=>[]
def codeOf (f:Func):Code:=f.body.getD .skip
def at_ (t:Array Value) (k:Nat):Value:=t.getD k undef
def Slots (t:Array Value):List (Nat×Value)->Prop
 | []=>True
 | (k,v)::l=>at_ t k=v/\Slots t l
def Fr (n:Nat) (a:Act) (l:List (Nat×Value)):Prop:=a.defers=[]/\a.tmps.size=n/\Slots a.tmps l
theorem eta_ (t:Array Value) {n:Nat} (h:t.size=n):t=((List.range n).map (at_ t)).toArray:=by
 subst h
 apply Array.ext_getElem?
 intro i
 by_cases hi:i<t.size
 ·simp [hi,at_]
 ·simp [Nat.not_lt.1 hi]
section
variable {P:Program} {Q:Z} {a:Act} {w:World}
theorem wp_part {c x y:Code} (h:c=Code.seq x y) (hx:∀ K:Act->World->Prop,(∀ a w,y.wp P Q a w->K a w)->x.wp P (Exit.then K Q) a w):c.wp P Q a w:=by
 subst h
 exact wp_seq_k hx
end
def fill (t:Array Value):List (Nat×Value)->Nat->Nat->List Value
 | _,_,0=>[]
 | [],k,m+1=>at_ t k::fill t [] (k+1) m
 | (i,v)::l,k,m+1=>bif i==k then v::fill t l (k+1) m else at_ t k::fill t ((i,v)::l) (k+1) m
section
variable {a:Act} {t:Array Value} {X:Array Value->List Value} {c c':Code} {l:List (Nat×Value)} {n:Nat} {P:Program} {w:World} {Q:Z}
theorem fill_eq (m:Nat):∀ (l:List (Nat×Value)) (k:Nat),Slots t l->fill t l k m=(List.range' k m).map (at_ t):=by
 induction m with
 | zero=>intro l k _;cases l<;>rfl
 | succ m ih=>
  intro l k h
  cases l with
  | nil=>simp [fill,List.range'_succ,ih [] (k+1) trivial]
  | cons x l=>
   obtain⟨i,v⟩:=x
   obtain⟨h1,h2⟩:=h
   by_cases hi:i=k
   . subst hi;simp [fill,List.range'_succ,ih l (i+1) h2,h1]
   . simp [fill,List.range'_succ,ih _ (k+1) (show Slots t ((i,v)::l) from ⟨h1,h2⟩),beq_eq_false_iff_ne.2 hi]
theorem gg (h:Fr n a l) (k:∀ t,c'.wp P Q ⟨(X t).toArray,[]⟩ w) (e:∀ t,fill t l 0 n=X t:=by intro t;simp only [fill,Nat.reduceAdd,Nat.reduceBEq,cond_true,cond_false];exact rfl) (e2:c=c':=by conv=>lhs;whnf):c.wp P Q a w:=by
 obtain⟨t,df⟩:=a
 obtain⟨hd,hs,hl⟩:=h
 simp only at hd hs hl
 subst hd e2
 have:=k t
 rw [← e t,fill_eq n l 0 hl,← List.range_eq_range',← eta_ t hs] at this
 exact this
end
section
variable {P:Program} {Q:Z} {a:Act} {w:World} {f:Func} {p q r:List Nat}
theorem w2 (hx:(part q (codeOf f)).wp P (Exit.then ((part r (codeOf f)).wp P Q) Q) a w) (e0:p++[0]=q:=by simp only [List.cons_append,List.nil_append]<;>exact rfl) (e1:p++[1]=r:=by simp only [List.cons_append,List.nil_append]<;>exact rfl) (h:part p (codeOf f)=.seq (part q (codeOf f)) (part r (codeOf f)):=by kernel_rfl):(part p (codeOf f)).wp P Q a w:=by
 rw [h]
 exact wp_seq hx
theorem w2p (hx:∀ K:Act->World->Prop,(∀ a w,(part r (codeOf f)).wp P Q a w->K a w)->(part q (codeOf f)).wp P (Exit.then K Q) a w) (e0:p++[0]=q:=by simp only [List.cons_append,List.nil_append]<;>exact rfl) (e1:p++[1]=r:=by simp only [List.cons_append,List.nil_append]<;>exact rfl) (h:part p (codeOf f)=.seq (part q (codeOf f)) (part r (codeOf f)):=by kernel_rfl):(part p (codeOf f)).wp P Q a w:=by
 rw [h]
 exact wp_seq_k hx
end
@[reducible] def laneC (mN mE wN wE:Int) (oA:O) (on oc:Nat) (epoch site next:Int):Array Value:=
 #[mN,mE,wN,wE,.slice oA on oc,epoch,site,next]
theorem new_aw (w:World):Calls prog 25 #[.int .i64 1,.int .i64 0,.int .i64 2] w fun x w'=>x=.returned (.tuple #[.pointer (some ⟨w.heap.size,0,none⟩),.int .i64 0])/\w'=w.alloc (.cells (laneC 0 0 0 0 none 0 0 1 0 2) 127):=by
 go_enter func25,ntmps25
 go_wp2
 go_ret2
 exact⟨rfl,rfl⟩
@[reducible] def ledC (m1:Value) (used:Int) (m2:Value) (hE hS:Int) (pA:O) (pn pc:Nat) (lA:O) (ln lc:Nat) (fence settled quota room:Int):Array Value:=
 #[m1,used,m2,hE,hS,.slice pA pn pc,.slice lA ln lc,fence,settled,quota,room]
theorem fresh_any (w:World):Calls prog 40 #[] w fun x w'=>∃ m1 m2,x=.returned (.agg #[.map m1,.int .i64 0,.map m2,.int .i64 0,.int .i64 0])/\Below w w w':=by
 go_enter func40,ntmps40
 go_wp2
 rw [run_makeMap_plain]
 go_wp2
 rw [run_makeMap_plain]
 go_wp2
 refine bodyPost_ret (v:=.agg #[.map (some (w.heap.size+1)),.int .i64 0,.map (some (w.heap.size+1+1)),.int .i64 0,.int .i64 0]) (by simp [results,results40,go_sem]) rfl ?_
 exact⟨_,_,rfl,(((Below.refl _ _).alloc (Nat.le_refl _) _).alloc (by simp) _).alloc (by simp;omega) _⟩
def LedAt (W:World) (g:Nat) (fence:Int):Prop:=∃ m1 m2,Blk W g 98 (ledC (.map m1) 0 (.map m2) 0 0 none 0 0 none 0 0 fence 0 100 9)
section
variable {B:Nat} {W W':World}
section
variable {g:Nat} {f:Int} (h:LedAt W g f)
include h
theorem LedAt.below (hb:Below B W W') (hg:g<B):LedAt W' g f:=by
 obtain⟨m1,m2,h⟩:=h
 exact⟨m1,m2,h.below hb hg⟩
theorem LedAt.lt:g<W:=by
 obtain⟨m1,m2,h⟩:=h
 exact h.lt
end
theorem ledger_aw (w:World):Calls prog 8 #[.int .i64 100,.int .i64 9] w fun x w'=>∃ g,x=.returned (.tuple #[.pointer (some ⟨g,0,none⟩),.int .i64 0])/\LedAt w' g 0/\w.heap.size<=g/\Below w w w':=by
 go_enter func8,ntmps8
 go_wp2_with fail
 refine (fresh_any _).mono ?_
 rintro x w1 ⟨m1,m2,rfl,hb1⟩
 have HB:=J hb1
 clear hb1
 go_wp2
 go_ret2
 exact⟨_,rfl,⟨m1,m2,Blk.new w1 _ _⟩,HB.out.size,HB.out.alloc HB.out.size _⟩
section
variable (g:Nat) (f:Int) (w:World) (h:LedAt w g f)
include g f w h
theorem holder_aw:Calls prog 53 #[.pointer (some ⟨g,0,none⟩)] w fun x w'=>x=.returned (.agg #[.int .i64 0,.int .i64 0])/\Below w w w':=by
 obtain⟨m1,m2,h⟩:=h
 have hk:=fun o=>h.alloc o
 have HK:=J hk
 have hg:=h.lt
 have c3:=(h.alloc (.cells #[.int .i64 0,.int .i64 0] 93)).cell 3
 have c4:=(h.alloc (.cells #[.int .i64 0,.int .i64 0] 93)).cell 4
 simp at c3 c4
 clear h hk
 go_enter func53,ntmps53
 go_wp2
 refine bodyPost_ret (v:=.agg #[.int .i64 0,.int .i64 0]) (by simp [results,results53,go_sem]) rfl ?_
 exact Y149
theorem fence_aw:Calls prog 24 #[.pointer (some ⟨g,0,none⟩)] w fun x w'=>x=.returned (.int .i64 f)/\w'=w:=by
 obtain⟨m1,m2,h⟩:=h
 have c7:=h.c1 7
 clear h
 go_enter func24,ntmps24
 exact Y222
end
theorem cloneOps_nil (w:World):Calls prog 98 #[.slice none 0 0] w fun x w'=>x=.returned (.slice none 0 0)/\w'=w:=by
 go_enter func98,ntmps98
 have q:∀ (w:World),(binOp .eql 28 (.slice none 0 0) (.slice none 0 0)).run prog w=.ok (.bool true) w:=fun w=>Lib.run_eql_slice_nil w _ _ none 0 0 0 0 underlying28
 exact Y222
theorem ownLed_nil (w:World):Calls prog 72 #[.slice none 0 0] w fun x w'=>x=.returned (.slice none 0 0)/\w'=w:=by
 go_enter func72,ntmps72
 go_wp2_with fail
 refine (cloneOps_nil _).mono ?_
 exact Y45
section
variable (g:Nat) (f:Int) (w:World) (h:LedAt w g f)
include g f w h
theorem ops_aw:Calls prog 22 #[.pointer (some ⟨g,0,none⟩)] w fun x w'=>x=.returned (.slice none 0 0)/\w'=w:=by
 obtain⟨m1,m2,h⟩:=h
 have c5:=h.c1 5
 clear h
 go_enter func22,ntmps22
 go_wp2_with fail
 refine (ownLed_nil _).mono ?_
 rintro x w1 ⟨rfl,rfl⟩
 exact Y222
theorem hasLed_aw:Calls prog 88 #[.pointer (some ⟨g,0,none⟩),.agg #[.int .i64 2,.int .i64 1]] w fun x w'=>x=.returned (.bool false)/\Below w w w':=by
 obtain⟨m1,m2,h⟩:=h
 have hg:=h.lt
 have c5:=(h.alloc (.cells #[.int .i64 2,.int .i64 1] 26)).cell 5
 simp at c5
 clear h
 go_enter func88,ntmps88
 exact Y171
end
theorem failed_any (e:Int) (w:World):Calls prog 41 #[e] w fun x w'=>x=.returned (.agg #[e,.int .i64 0,.int .i64 0])/\Below w w w':=by
 go_enter func41,ntmps41
 go_wp2
 refine bodyPost_ret (v:=.agg #[e,.int .i64 0,.int .i64 0]) (by simp [results,results41,go_sem]) rfl ?_
 exact Y149
end
section
variable {x5:Bool} {x7:ByteArray} {x0 x1 x10 x11 x12 x13 x14 x2 x3 x4 x9:Int} {y11 y14 y15 y16 y6 y8 z11 z14 z15 z16 z6 z8:Nat} {x15 x16 x6 x8:O} {o:Oper} {a0 a1 a10 a11 a12 a13 a14 a15 a16 a2 a3 a4 a5 a6 a7 a8 a9:Value}
theorem store_mail (p v:Tmp) (hop:o.op=.store 30 (.tmp p) (.tmp v)) (F:Act) (W:World) (b:Nat) (hp:F.eval (.tmp p)=.pointer (some ⟨b,0,none⟩)) (hv:F.eval (.tmp v)=.agg #[x0,x1,x2,x3,x4,x5,.slice x6 y6 z6,.string x7,.slice x8 y8 z8,x9,x10,x11,x12,x13,x14,.slice x15 y15 z15,.slice x16 y16 z16]) (hbk:Blk W b 30 #[a0,a1,a2,a3,a4,a5,a6,a7,a8,a9,a10,a11,a12,a13,a14,a15,a16]) :
 (execOp F.eval o).run prog W=.ok .skip (putCells W b 0 [.int .i64 x0,.int .i64 x1,.int .i64 x2,.int .i64 x3,.int .i64 x4,.bool x5,.slice x6 y6 z6,.string x7,.slice x8 y8 z8,.int .i64 x9,.int .i64 x10,.int .i64 x11,.int .i64 x12,.int .i64 x13,.int .i64 x14,.slice x15 y15 z15,.slice x16 y16 z16]):=by
 have f0:=hbk.frozen 0
 have d0:=hbk.cell 0
 have f1:=hbk.frozen 1
 have d1:=hbk.cell 1
 have f2:=hbk.frozen 2
 have d2:=hbk.cell 2
 have f3:=hbk.frozen 3
 have d3:=hbk.cell 3
 have f4:=hbk.frozen 4
 have d4:=hbk.cell 4
 have f5:=hbk.frozen 5
 have d5:=hbk.cell 5
 have f6:=hbk.frozen 6
 have d6:=hbk.cell 6
 have f7:=hbk.frozen 7
 have d7:=hbk.cell 7
 have f8:=hbk.frozen 8
 have d8:=hbk.cell 8
 have f9:=hbk.frozen 9
 have d9:=hbk.cell 9
 have f10:=hbk.frozen 10
 have d10:=hbk.cell 10
 have f11:=hbk.frozen 11
 have d11:=hbk.cell 11
 have f12:=hbk.frozen 12
 have d12:=hbk.cell 12
 have f13:=hbk.frozen 13
 have d13:=hbk.cell 13
 have f14:=hbk.frozen 14
 have d14:=hbk.cell 14
 have f15:=hbk.frozen 15
 have d15:=hbk.cell 15
 have f16:=hbk.frozen 16
 have d16:=hbk.cell 16
 simp at d0 d1 d2 d3 d4 d5 d6 d7 d8 d9 d10 d11 d12 d13 d14 d15 d16
 exact Y207
theorem store_cmd (p v:Tmp) (hop:o.op=.store 47 (.tmp p) (.tmp v)) (F:Act) (W:World) (b:Nat) {x5 x6 x7 x8 x15:Int} {x9:ByteArray} {x11 x14:O} (hp:F.eval (.tmp p)=.pointer (some ⟨b,0,none⟩)) (hv:F.eval (.tmp v)=.agg #[x0,x1,x2,x3,x4,x5,x6,x7,x8,.string x9,x10,.slice x11 y11 z11,x12,x13,.slice x14 y14 z14,x15]) (hbk:Blk W b 47 #[a0,a1,a2,a3,a4,a5,a6,a7,a8,a9,a10,a11,a12,a13,a14,a15]) :
 (execOp F.eval o).run prog W=.ok .skip (putCells W b 0 [.int .i64 x0,.int .i64 x1,.int .i64 x2,.int .i64 x3,.int .i64 x4,.int .i64 x5,.int .i64 x6,.int .i64 x7,.int .i64 x8,.string x9,.int .i64 x10,.slice x11 y11 z11,.int .i64 x12,.int .i64 x13,.slice x14 y14 z14,.int .i64 x15]):=by
 have f0:=hbk.frozen 0
 have d0:=hbk.cell 0
 have f1:=hbk.frozen 1
 have d1:=hbk.cell 1
 have f2:=hbk.frozen 2
 have d2:=hbk.cell 2
 have f3:=hbk.frozen 3
 have d3:=hbk.cell 3
 have f4:=hbk.frozen 4
 have d4:=hbk.cell 4
 have f5:=hbk.frozen 5
 have d5:=hbk.cell 5
 have f6:=hbk.frozen 6
 have d6:=hbk.cell 6
 have f7:=hbk.frozen 7
 have d7:=hbk.cell 7
 have f8:=hbk.frozen 8
 have d8:=hbk.cell 8
 have f9:=hbk.frozen 9
 have d9:=hbk.cell 9
 have f10:=hbk.frozen 10
 have d10:=hbk.cell 10
 have f11:=hbk.frozen 11
 have d11:=hbk.cell 11
 have f12:=hbk.frozen 12
 have d12:=hbk.cell 12
 have f13:=hbk.frozen 13
 have d13:=hbk.cell 13
 have f14:=hbk.frozen 14
 have d14:=hbk.cell 14
 have f15:=hbk.frozen 15
 have d15:=hbk.cell 15
 simp at d0 d1 d2 d3 d4 d5 d6 d7 d8 d9 d10 d11 d12 d13 d14 d15
 exact Y207
end
theorem meet_results {T:Array Value} {W:World} {b6 b7:Nat} {n x0 x1 x2 x3 x4 x9 x10 x11 x12 x13 x14:Int} {x5:Bool} {x7:ByteArray} {x6 x8 x15 x16:O} {x6n x6c x8n x8c x15n x15c x16n x16c:Nat} {y0 y1 y2 y3 y4 y5 y6 y7 y8 y10 y12 y13 y15:Int} {y9:ByteArray} {y11 y14:O} {y11n y11c y14n y14c:Nat} (h6:T[6]?.getD undef=.pointer (some ⟨b6,0,none⟩)) (h7:T[7]?.getD undef=.pointer (some ⟨b7,0,none⟩)) (h8:T[8]?.getD undef=.int .i64 n) (hm:Blk W b6 30 #[x0,x1,x2,x3,x4,x5,.slice x6 x6n x6c,.string x7,.slice x8 x8n x8c,x9,x10,x11,x12,x13,x14,.slice x15 x15n x15c,.slice x16 x16n x16c]) (hc:Blk W b7 47 #[y0,y1,y2,y3,y4,y5,y6,y7,y8,.string y9,y10,.slice y11 y11n y11c,y12,y13,.slice y14 y14n y14c,y15]) :
 (results Try.f16 T).run prog W=.ok (.tuple #[.agg #[x0,x1,x2,x3,x4,x5,.slice x6 x6n x6c,.string x7,.slice x8 x8n x8c,x9,x10,x11,x12,x13,x14,.slice x15 x15n x15c,.slice x16 x16n x16c],.agg #[y0,y1,y2,y3,y4,y5,y6,y7,y8,.string y9,y10,.slice y11 y11n y11c,y12,y13,.slice y14 y14n y14c,y15],.int .i64 n]) W:=by
 obtain⟨d0,d1,d2,d3,d4,d5,d6,d7,d8,d9,d10,d11,d12,d13,d14,d15,d16⟩:=hm.cs 0 17
 obtain⟨k0,k1,k2,k3,k4,k5,k6,k7,k8,k9,k10,k11,k12,k13,k14,k15⟩:=hc.cs 0 16
 clear hm hc
 simp [results,results16,h6,h7,h8,d0,d1,d2,d3,d4,d5,d6,d7,d8,d9,d10,d11,d12,d13,d14,d15,d16,k0,k1,k2,k3,k4,k5,k6,k7,k8,k9,k10,k11,k12,k13,k14,k15,go_sem]
section
variable {P:Program} {Q:Z} {a:Act} {w:World} {c x y:Code}
section
variable {t:Bool} {id k:Nat} {o:Operand} {v:Value}
theorem wp_two (h:c=Code.seq x y) (hx:x.wp P (Exit.then (y.wp P Q) Q) a w):c.wp P Q a w:=by
 subst h
 exact wp_seq hx
theorem wp_if (h:c=Code.cond o x y) (hc:a.eval o=.bool t) (hx:t=true->x.wp P Q a w) (hy:t=false->y.wp P Q a w):c.wp P Q a w:=by
 subst h
 cases t with
 | true=>exact wp_cond_true hc (hx rfl)
 | false=>exact wp_cond_false hc (hy rfl)
theorem wp_blk (h:c=Code.block id x) (hx:x.wp P (Exit.inBlock id Q) a w):c.wp P Q a w:=by
 subst h
 exact wp_block hx
theorem wp_nop (h:c=Code.skip) (hq:Q .normal a w):c.wp P Q a w:=by
 subst h
 exact wp_skip hq
theorem eval_at {t:Nat} (h:at_ a.tmps t=v) (hk:k=t):a.eval (.tmp k)=v:=by
 subst hk
 rw [<-h]
 simp [Act.eval,at_]
end
end
def hasEdge (ops:Array Oper) (j i:Nat):Bool:=match ops[j]? with
 | some o=>o.after.any fun e=>Region.binds .any e&&e.on==i
 | none=>false
def earlyOk (ops:Array Oper) (stages:List Nat) (early:Nat->Nat->Bool):Bool:=
 stages.all fun s=>(List.range ops.size).all fun i=>!early s i||i==s||(List.range ops.size).any fun j=>early s j&&(decide (i<j)&&hasEdge ops j i)
theorem early_done {ops:Array Oper} {stages:List Nat} {early:Nat->Nat->Bool} (h:earlyOk ops stages early=true) {l:Nat->Bool} (hcl:∀ j oj,ops[j]? = some oj->l j=true->∀ e∈oj.after,Region.binds .any e=true->l e.on=true) {s:Nat} (hs:s∈stages) (hd:l s=true) :
 ∀ i,i<ops.size->early s i=true->l i=true:=by
 have key:∀ k i,ops.size-i=k->i<ops.size->early s i=true->l i=true:=by
  intro k
  induction k using Nat.strongRecOn with
  | _ k ih=>
   intro i hk hi he
   have h1:=List.all_eq_true.1 (List.all_eq_true.1 h s hs) i (List.mem_range.2 hi)
   rw [he] at h1
   simp only [Bool.not_true,Bool.false_or,Bool.or_eq_true,beq_iff_eq] at h1
   rcases h1 with h1|h1
   ·rw [h1];exact hd
   ·obtain⟨j,hj,h2⟩:=List.any_eq_true.1 h1
    simp only [Bool.and_eq_true,decide_eq_true_eq] at h2
    have hj':=List.mem_range.1 hj
    have hlj:=ih (ops.size-j) (by omega) j rfl hj' h2.1
    have h3:=h2.2.2
    unfold hasEdge at h3
    rw [Array.getElem?_eq_getElem hj'] at h3
    simp only at h3
    obtain⟨e,he1,he2⟩:=Array.any_eq_true'.1 h3
    simp only [Bool.and_eq_true,beq_iff_eq] at he2
    have:=hcl j _ (Array.getElem?_eq_getElem hj') hlj e he1 he2.1
    rw [he2.2] at this
    exact this
 exact fun i hi he=>key _ i rfl hi he
section
variable {a:Act} {ops:Array Oper} {c:Code} {i id n:Nat} {o:Oper} {P:Program} {w:World} {Q:Z}
theorem wp_region_line (V:Nat->Value->World->Prop) (G:World->Prop) (Ext:World->World->Prop) (hsz':drawOk3 ops a.tmps.size=true) (hG:G w) (hmono:∀ i v W W',Ext W W'->V i v W->V i v W') (hstep:∀ (i:Nat) (o:Oper) (F:Act) (U:Nat->Value) (W:World),ops[i]? = some o->G W->(∀ (j:Nat) (t:Tmp),j<ops.size->dstAt ops j=some t->F.eval (.tmp t)=U j)->(∀ t:Tmp,(∀ j,j<ops.size->dstAt ops j≠some t)->F.eval (.tmp t)=a.eval (.tmp t))->(∀ j,j<i->V j (U j) W)->(Region.wanted o (yielded ops F.tmps)=true->o.wp P F W (fun a' W'=>∃ v,a'=F.put o.dst v/\V i v W'/\G W'/\Ext W W') Q)/\(Region.wanted o (yielded ops F.tmps)=false->V i undef W)) (hend:∀ (U:Nat->Value) (W:World),G W->(∀ i,i<ops.size->V i (U i) W)->Q .normal (putU ops a U ops.size) W):(Code.region id ops false).wp P Q a w:=by
 obtain⟨hsz,hd',_⟩:=drawOk3_spec hsz'
 have main:∀ (l:List Oper) (k:Nat) (U:Nat->Value) (W:World),k+l.length=ops.size->(∀ j,l[j]? = ops[k+j]?)->G W->(∀ i,i<k->V i (U i) W)->wpList P ops Q l (putU ops a U ops.size) W:=by
  intro l
  induction l with
  | nil=>
   intro k U W hk _ hGW hV
   exact hend U W hGW fun i hi=>hV i (by simp at hk;omega)
  | cons o l ih=>
   intro k U W hk hl hGW hV
   have hko:ops[k]? = some o:=by have:=hl 0;simpa using this.symm
   have hks:k<ops.size:=(Array.getElem?_eq_some_iff.1 hko).1
   have hdo:o.dst=dstAt ops k:=by unfold dstAt;rw [hko];rfl
   have hst:=hstep k o (putU ops a U ops.size) U W hko hGW (fun j t hj ht=>putU_at ops.size hd' j hj t ht (hsz j hj t ht)) (fun t ht=>putU_off ops.size t ht) hV
   have next:∀ (v:Value) (W':World),V k v W'->(∀ i,i<k->V i (U i) W')->∀ i,i<k+1->V i (updU U k v i) W':=by
    intro v W' hv ho i hi
    unfold updU
    by_cases hik:i=k
    ·subst hik;rw [if_pos rfl];exact hv
    ·rw [if_neg hik];exact ho i (by omega)
   unfold wpList
   by_cases hw:Region.wanted o (yielded ops (putU ops a U ops.size).tmps)=true
   ·rw [if_pos hw]
    left
    refine Oper.wp_mono ?_ (hst.1 hw)
    rintro a' W' ⟨v,rfl,hv,hG',hx⟩
    rw [hdo,putU_put2 ops.size k hks v hd']
    exact ih (k+1) _ W' (by simp at hk ⊢;omega) (fun j=>by have:=hl (j+1);simp only [List.getElem?_cons_succ] at this;rw [this];congr 1;omega) hG' (next v W' hv fun i hi=>hmono _ _ _ _ hx (hV i hi))
   ·have hw':Region.wanted o (yielded ops (putU ops a U ops.size).tmps)=false:=by simpa using hw
    rw [if_neg hw,hdo,putU_put2 ops.size k hks undef hd']
    exact ih (k+1) _ W (by simp at hk ⊢;omega) (fun j=>by have:=hl (j+1);simp only [List.getElem?_cons_succ] at this;rw [this];congr 1;omega) hGW (next undef W (hst.2 hw') hV)
 obtain⟨U,hU⟩:=putU_self (ops:=ops) (a:=a) ops.size hsz
 have h0:=main ops.toList 0 U w (by simp) (fun j=>by simp) hG (fun i hi=>absurd hi (by omega))
 rw [hU] at h0
 have:=wp_region_lit (id:=id) (l:=ops.toList) (by simpa using h0)
 simpa using this
theorem none_past (hn:ops.size=n) (h:ops[i+n]? = some o):False:=by
 rw [Array.getElem?_eq_none (by omega)] at h
 cases h
theorem wp_region_named (hc:c=.region id (opsOf c).toArray false) (V:Nat->Value->World->Prop) (G:World->Prop) (Ext:World->World->Prop) (hsz':drawOk3 (opsOf c).toArray a.tmps.size=true) (hG:G w) (hmono:∀ i v W W',Ext W W'->V i v W->V i v W') (hstep:∀ (i:Nat) (o:Oper) (F:Act) (U:Nat->Value) (W:World),(opsOf c).toArray[i]? = some o->G W->(∀ (j:Nat) (t:Tmp),j<(opsOf c).toArray.size->dstAt (opsOf c).toArray j=some t->F.eval (.tmp t)=U j)->(∀ t:Tmp,(∀ j,j<(opsOf c).toArray.size->dstAt (opsOf c).toArray j≠some t)->F.eval (.tmp t)=a.eval (.tmp t))->(∀ j,j<i->V j (U j) W)->(Region.wanted o (yielded (opsOf c).toArray F.tmps)=true->o.wp P F W (fun a' W'=>∃ v,a'=F.put o.dst v/\V i v W'/\G W'/\Ext W W') Q)/\(Region.wanted o (yielded (opsOf c).toArray F.tmps)=false->V i undef W)) (hend:∀ (U:Nat->Value) (W:World),G W->(∀ i,i<(opsOf c).toArray.size->V i (U i) W)->Q .normal (putU (opsOf c).toArray a U (opsOf c).toArray.size) W):c.wp P Q a w:=by
 rw [hc]
 exact wp_region_line V G Ext hsz' hG hmono hstep hend
end
section
variable {ops:Array Oper} {a:Act} {U:Nat->Value}
section
variable {t:Nat} {v:Value}
theorem putU_get (hsz':drawOk3 ops a.tmps.size=true) (j t:Nat) (hj:j<ops.size) (ht:dstAt ops j=some t):at_ (putU ops a U ops.size).tmps t=U j:=by
 obtain⟨hsz,hd',_⟩:=drawOk3_spec hsz'
 have h:=putU_at (a:=a) (U:=U) ops.size hd' j hj t ht (hsz j hj t ht)
 rw [<-h]
 simp [Act.eval,at_]
theorem putU_old (t:Nat) (h:∀ j,j<ops.size->dstAt ops j≠some t):at_ (putU ops a U ops.size).tmps t=at_ a.tmps t:=by
 have h:=putU_off (a:=a) (U:=U) ops.size t h
 have e:∀ x:Act,at_ x.tmps t=x.eval (.tmp t):=fun x=>by simp [Act.eval,at_]
 rw [e,e,h]
theorem putU_defers (n:Nat):(putU ops a U n).defers=a.defers:=by
 induction n with
 | zero=>rfl
 | succ n ih=>
  unfold putU
  rw [<-ih]
  unfold Act.put
  split<;>rfl
theorem eval_of (h:at_ a.tmps t=v):a.eval (.tmp t)=v:=by
 rw [<-h]
 simp [Act.eval,at_]
end
end
theorem wp_region_old {P:Program} {ops:Array Oper} {Q:Z} {id:Nat} {a:Act} {w:World} (hm:P.follows .mixedOrders=true) (V:Nat->Value->World->Prop) (G:World->Prop) (stages:List Nat) (early:Nat->Nat->Bool) (Ext:World->World->Prop) (hsz':drawOk3 ops a.tmps.size=true) (hearly:earlyOk ops stages early=true) (hG:G {w with drawn:=w.drawn+1}) (hmono:∀ i v W W',Ext W W'->V i v W->V i v W') (hstep:∀ (i:Nat) (o:Oper) (F:Act) (U:Nat->Value) (W:World),ops[i]? = some o->G W->(∀ s∈stages,early s i=true->∀ t,dstAt ops s=some t->s<ops.size->F.eval (.tmp t)=a.eval (.tmp t))->(∀ (j:Nat) (t:Tmp),j<ops.size->dstAt ops j=some t->F.eval (.tmp t)=U j)->(∀ t:Tmp,(∀ j,j<ops.size->dstAt ops j≠some t)->F.eval (.tmp t)=a.eval (.tmp t))->(∀ e∈o.after,Region.binds .any e=true->V e.on (U e.on) W)->(Region.wanted o (yielded ops F.tmps)=true->o.wp P F W (fun a' W'=>∃ v,a'=F.put o.dst v/\V i v W'/\G W'/\Ext W W') Q)/\(Region.wanted o (yielded ops F.tmps)=false->V i undef W)) (hend:∀ (U:Nat->Value) (W:World),G W->(∀ i,i<ops.size->V i (U i) W)->Q .normal (putU ops a U ops.size) W):(Code.region id ops true).wp P Q a w:=by
 refine wp_region_any hm ?_
 obtain⟨hsz,hd',hback⟩:=drawOk3_spec hsz'
 have main:∀ (fuel:Nat) (l:Array Bool) (U:Nat->Value) (W:World),l.size=ops.size->G W->(∀ i,i<ops.size->l.getD i false=true->V i (U i) W)->(∀ i o,ops[i]? = some o->l.getD i false=true->∀ e∈o.after,Region.binds .any e=true->l.getD e.on false=true)->(∀ s∈stages,∀ t,dstAt ops s=some t->s<ops.size->l.getD s false=false->U s=a.eval (.tmp t))->
  ((List.range ops.size).filter fun i=>!l.getD i false).length<=fuel->wpAny P .any ops Q fuel l (putU ops a U ops.size) W:=by
  intro fuel
  induction fuel with
  | zero=>
   intro l U W hl hGW hV hcl hNl hf
   exact Y8
  | succ fuel ih=>
   intro l U W hl hGW hV hcl hNl hf
   refine⟨fun hr=>hend U W hGW fun i hi=>hV i hi (ready_some hl (fun i o ho=>hback i o ho) hr i hi),fun i hi=>?_⟩
   obtain⟨o,ho,hln,hpre⟩:=ready_spec hi
   have hio:i<ops.size:=by
    exact Y210
   have hil:i<l.size:=by omega
   have hlf:l.getD i false=false:=by
    exact Y140
   have hb:=hback i o ho
   unfold wpOp
   rw [ho]
   have hdo:o.dst=dstAt ops i:=by unfold dstAt;rw [ho];rfl
   have fewer:((List.range ops.size).filter fun j=>!(l.setIfInBounds i true).getD j false).length<=fuel:=by
    exact Y11
   have hold:∀ j,j<ops.size->(l.setIfInBounds i true).getD j false=true->j≠i->l.getD j false=true:=by
    intro j hj hlj hji
    exact Y56
   have hnot:∀ s∈stages,early s i=true->∀ t,dstAt ops s=some t->s<ops.size->(putU ops a U ops.size).eval (.tmp t)=a.eval (.tmp t):=by
    intro s hs he t ht hss
    rw [putU_at ops.size hd' s hss t ht (hsz s hss t ht)]
    refine hNl s hs t ht hss ?_
    cases hb2:l.getD s false with
    | false=>rfl
    | true=>
     have:=early_done hearly (l:=fun j=>l.getD j false) (fun j oj hoj hlj e he hbe=>hcl j oj hoj hlj e he hbe) hs hb2 i hio he
     rw [hlf] at this
     cases this
   have hst:=hstep i o (putU ops a U ops.size) U W ho hGW hnot (fun j t hj ht=>putU_at ops.size hd' j hj t ht (hsz j hj t ht)) (fun t ht=>putU_off ops.size t ht) (fun e he hbe=>by
    have hlt:=hb e he hbe
    exact hV e.on (by omega) (hpre e he hbe))
   have hcl':∀ j oj,ops[j]? = some oj->(l.setIfInBounds i true).getD j false=true->∀ e∈oj.after,Region.binds .any e=true->(l.setIfInBounds i true).getD e.on false=true:=by
    intro j oj hoj hlj e he hbe
    have up:∀ k,l.getD k false=true->(l.setIfInBounds i true).getD k false=true:=by
     intro k hk
     by_cases hki:i=k
     ·subst hki;simp [Array.getD,hil]
     ·by_cases hkl:k<l.size
      ·simp [Array.getD,hkl,hki] at hk ⊢
       exact hk
      ·simp [Array.getD,hkl] at hk
    by_cases hji:j=i
    ·subst hji
     exact Y204
    ·have hj : j < ops.size := by
      rcases Nat.lt_or_ge j ops.size with h|h
      ·exact h
      ·rw [Array.getElem?_eq_none h] at hoj;cases hoj
     exact up _ (hcl j oj hoj (hold j hj hlj hji) e he hbe)
   have down:∀ s,(l.setIfInBounds i true).getD s false=false->s≠i/\l.getD s false=false:=by
    intro s hs
    by_cases hsi:i=s
    ·subst hsi;simp [Array.getD,hil] at hs
    ·refine⟨fun e=>hsi e.symm,?_⟩
     by_cases hsl:s<l.size
     ·simp [Array.getD,hsl,hsi] at hs ⊢
      exact hs
     ·simp [Array.getD,hsl]
   by_cases hw:Region.wanted o (yielded ops (putU ops a U ops.size).tmps)=true
   ·simp only [hw,if_true]
    left
    refine Oper.wp_mono ?_ (hst.1 hw)
    rintro a' W' ⟨v,rfl,hv,hG',hx⟩
    rw [hdo,putU_put2 ops.size i hio v hd']
    refine ih _ _ _ (by simp [hl]) hG' (fun j hj hlj=>?_) hcl' (fun s hs t ht hss hf=>by unfold updU;rw [if_neg (down s hf).1];exact hNl s hs t ht hss (down s hf).2) fewer
    exact Y132
   ·have hw':Region.wanted o (yielded ops (putU ops a U ops.size).tmps)=false:=by simpa using hw
    simp only [hw',Bool.false_eq_true,if_false]
    rw [hdo,putU_put2 ops.size i hio undef hd']
    refine ih _ _ _ (by simp [hl]) hGW (fun j hj hlj=>?_) hcl' (fun s hs t ht hss hf=>by unfold updU;rw [if_neg (down s hf).1];exact hNl s hs t ht hss (down s hf).2) fewer
    exact Y141
 obtain⟨U,hU⟩:=putU_self (ops:=ops) (a:=a) ops.size hsz
 have:=main ops.size (Array.replicate ops.size false) U {w with drawn:=w.drawn+1} (by simp) hG (fun i hi h=>by simp [Array.getD,hi] at h) (fun i o ho h=>by
  have hi:i<ops.size:=by
   exact Y210
  simp [Array.getD,hi] at h) (fun s hs t ht hss _=>by rw [<-putU_at (U:=U) (a:=a) ops.size hd' s hss t ht (hsz s hss t ht),hU]) (Nat.le_trans (List.length_filter_le _ _) (by simp))
 rw [hU] at this
 exact this
section
variable {o:Oper} {x0 x1 x10 x11 x12 x13 x14 x15 x16 x2 x3 x4 x5 x6 x7 x8 x9:Value}
theorem load_mail (p:Tmp) (hop:o.op=.load 30 (.tmp p)) (F:Act) (W:World) (b:Nat) (hp:F.eval (.tmp p)=.pointer (some ⟨b,0,none⟩)) (hbk:Blk W b 30 #[x0,x1,x2,x3,x4,x5,x6,x7,x8,x9,x10,x11,x12,x13,x14,x15,x16]) :
 (execOp F.eval o).run prog W=.ok (.value (.agg #[x0,x1,x2,x3,x4,x5,x6,x7,x8,x9,x10,x11,x12,x13,x14,x15,x16])) W:=by
 obtain⟨d0,d1,d2,d3,d4,d5,d6,d7,d8,d9,d10,d11,d12,d13,d14,d15,d16⟩:=hbk.cs 0 17
 clear hbk
 have hp2:=act_tmp hp
 unfold execOp
 rw [hop]
 go_simp
theorem load_cmd (p:Tmp) (hop:o.op=.load 47 (.tmp p)) (F:Act) (W:World) (b:Nat) (hp:F.eval (.tmp p)=.pointer (some ⟨b,0,none⟩)) (hbk:Blk W b 47 #[x0,x1,x2,x3,x4,x5,x6,x7,x8,x9,x10,x11,x12,x13,x14,x15]) :
 (execOp F.eval o).run prog W=.ok (.value (.agg #[x0,x1,x2,x3,x4,x5,x6,x7,x8,x9,x10,x11,x12,x13,x14,x15])) W:=by
 obtain⟨d0,d1,d2,d3,d4,d5,d6,d7,d8,d9,d10,d11,d12,d13,d14,d15⟩:=hbk.cs 0 16
 clear hbk
 have hp2:=act_tmp hp
 unfold execOp
 rw [hop]
 go_simp
end
end Go.Proofs.Ytaipgdhdfpemcaa
