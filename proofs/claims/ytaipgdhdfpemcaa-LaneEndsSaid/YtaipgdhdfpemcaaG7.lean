/- THE WALKS OF THE LANE, part 7. -/
import Derived.Test.YtaipgdhdfpemcaaG4
import Derived.Test.YtaipgdhdfpemcaaG6
namespace Go.Proofs.Ytaipgdhdfpemcaa
set_option linter.all false
open Go.RowKit Go.Proofs.Try
set_option maxRecDepth 100000
set_option maxHeartbeats 4000000
structure Opd where
 n:Int
 epoch:Int
 kind:Int
 site:Int
 client:Int
 seq:Int
 name:ByteArray
 size:Int
 hA:Option Addr
 hn:Nat
 hc:Nat
def Opd.cells (o:Opd):List Value:=[.int .i64 o.n,.int .i64 o.epoch,.int .i64 o.kind,.int .i64 o.site,.int .i64 o.client,.int .i64 o.seq,.string o.name,.int .i64 o.size,.slice o.hA o.hn o.hc]
def opsV (os:List Opd):List Value:=os.flatMap Opd.cells
theorem opsV_len (os:List Opd):(opsV os).length=os.length*9:=by
 induction os with
 | nil=>rfl
 | cons o l ih=>simp only [opsV,List.flatMap_cons,List.length_append,List.length_cons] at ih ⊢;rw [ih];simp [Opd.cells];omega
theorem opsV_at (os:List Opd) (k j:Nat) (o:Opd) (h:os[k]? = some o) (hj:j<9):(opsV os)[9*k+j]? = o.cells[j]?:=by
 induction os generalizing k with
 | nil=>simp at h
 | cons a l ih=>
  have e:opsV (a::l)=a.cells++opsV l:=rfl
  rw [e]
  rcases k with _|k
  ·simp only [List.getElem?_cons_zero,Option.some.injEq] at h
   subst h
   rw [List.getElem?_append_left (by simp [Opd.cells];omega),Nat.mul_zero,Nat.zero_add]
  ·rw [List.getElem?_append_right (by simp [Opd.cells];omega)]
   have e2:9*(k+1)+j-a.cells.length=9*k+j:=by simp [Opd.cells];omega
   rw [e2]
   exact ih k (by simpa using h)
def OpAt (w:World) (b:Addr) (o:Opd):Prop:=
 w.cell? b=some (.int .i64 o.n)/\w.cell? {block:=b.block,off:=b.off+1,spot:=none}=some (.int .i64 o.epoch)/\w.cell? {block:=b.block,off:=b.off+2,spot:=none}=some (.int .i64 o.kind)/\w.cell? {block:=b.block,off:=b.off+3,spot:=none}=some (.int .i64 o.site)/\w.cell? {block:=b.block,off:=b.off+4,spot:=none}=some (.int .i64 o.client)/\w.cell? {block:=b.block,off:=b.off+5,spot:=none}=some (.int .i64 o.seq)/\w.cell? {block:=b.block,off:=b.off+6,spot:=none}=some (.string o.name)/\w.cell? {block:=b.block,off:=b.off+7,spot:=none}=some (.int .i64 o.size)/\w.cell? {block:=b.block,off:=b.off+8,spot:=none}=some (.slice o.hA o.hn o.hc)
section
variable {b:Addr} {os:List Opd} {B g k n:Nat} {A:O} {o:Opd} {t:TypeId} {a:Value} {W w w':World}
theorem OpAt.below (h:OpAt w b o) (hb:Below B w w') (hB:b.block<B):OpAt w' b o:=by
 unfold OpAt at h ⊢
 have e:=fun (p:Addr) (hp:p.block<B)=>hb.cell hp
 rw [e b hB,e _ (show ({block:=b.block,off:=b.off+1,spot:=none}:Addr).block<B from hB),e _ (show ({block:=b.block,off:=b.off+2,spot:=none}:Addr).block<B from hB),e _ (show ({block:=b.block,off:=b.off+3,spot:=none}:Addr).block<B from hB),e _ (show ({block:=b.block,off:=b.off+4,spot:=none}:Addr).block<B from hB),e _ (show ({block:=b.block,off:=b.off+5,spot:=none}:Addr).block<B from hB),e _ (show ({block:=b.block,off:=b.off+6,spot:=none}:Addr).block<B from hB),e _ (show ({block:=b.block,off:=b.off+7,spot:=none}:Addr).block<B from hB),e _ (show ({block:=b.block,off:=b.off+8,spot:=none}:Addr).block<B from hB)]
 exact h
theorem add_pos (b:Addr) (j:Nat) (hj:0<j):b.add j={block:=b.block,off:=b.off+j,spot:=none}:=by
 unfold Addr.add;rw [if_neg (by omega)]
section
variable (h:Reads w B 9 A n (opsV os))
include h
theorem op_at (hk:k<n) :
 ∃ ad o,A=some ad/\(ad.add (k*9)).block<B/\os[k]? = some o/\OpAt w (ad.add (k*9)) o:=by
 obtain⟨ad,e,hb,hc⟩:=h.2 (by omega)
 have hl:os.length=n:=by have:=h.1;rw [opsV_len] at this;omega
 obtain⟨o,ho⟩:∃ o,os[k]? = some o:=⟨_,List.getElem?_eq_getElem (by omega)⟩
 refine⟨ad,o,e,by rw [block_of_add];exact hb,ho,?_⟩
 have hj:∀ j u,j<9->o.cells[j]? = some u->w.cell? ((ad.add (k*9)).add j)=some u:=by
  intro j u hj hu
  have h1:=opsV_at os k j o ho hj
  rw [hu] at h1
  rw [add_of_add]
  have e2:k*9+j=9*k+j:=by omega
  rw [e2]
  exact hc _ u h1
 have h0:=hj 0 _ (by omega) rfl
 have h1:=hj 1 _ (by omega) rfl
 rw [add_pos _ _ (by omega)] at h1
 have h2:=hj 2 _ (by omega) rfl
 rw [add_pos _ _ (by omega)] at h2
 have h3:=hj 3 _ (by omega) rfl
 rw [add_pos _ _ (by omega)] at h3
 have h4:=hj 4 _ (by omega) rfl
 rw [add_pos _ _ (by omega)] at h4
 have h5:=hj 5 _ (by omega) rfl
 rw [add_pos _ _ (by omega)] at h5
 have h6:=hj 6 _ (by omega) rfl
 rw [add_pos _ _ (by omega)] at h6
 have h7:=hj 7 _ (by omega) rfl
 rw [add_pos _ _ (by omega)] at h7
 have h8:=hj 8 _ (by omega) rfl
 rw [add_pos _ _ (by omega)] at h8
 have e0:(ad.add (k*9)).add 0=ad.add (k*9):=rfl
 rw [e0] at h0
 exact⟨h0,h1,h2,h3,h4,h5,h6,h7,h8⟩
theorem ops_len:os.length=n:=by
 have:=h.1;rw [opsV_len] at this;omega
end
theorem spot_any (a1 a2 a3 a4 a5 a6:Int) (a7:ByteArray) (a8:Int) (a9:Value) (w:World) :
 Calls prog 59 #[.agg #[a1,a2,a3,a4,a5,a6,.string a7,a8,a9]] w fun x w'=>x=.returned (.agg #[a1,a2])/\Below w w w':=by
 go_enter func59,ntmps59
 go_wp2
 refine bodyPost_ret (v:=.agg #[a1,a2]) (by simp [results,results59,go_sem]) rfl ?_
 exact Y108
theorem set2 {b:Value} (h:Blk W g t #[a,b]) (x y:Value):Blk ((W.setCell ⟨g,0,none⟩ x).setCell ⟨g,1,none⟩ y) g t #[x,y]:=(h.set_ 0 x).set_ 1 y
end
def lastOf (oN oE:Int) (os:List Opd):Int×Int:=match os.getLast? with
 | none=>(oN,oE)
 | some o=>(o.n,o.epoch)
section
variable {xs:List Value} {b base n o size:Nat} {e:TypeId} {v:Value} {w:World}
theorem last_any (oN oE:Int) (A:O) (n c:Nat) (os:List Opd) (w:World) (h:Reads w w.heap.size 9 A n (opsV os)) (hn:n<=4294967296) :
 Calls prog 60 #[.agg #[oN,oE],.slice A n c] w fun x w'=>x=.returned (.agg #[.int .i64 (lastOf oN oE os).1,.int .i64 (lastOf oN oE os).2])/\Below w w w':=by
 have hlen:=ops_len h
 rcases Nat.eq_zero_or_pos n with h0|h0
 ·subst h0
  obtain rfl:os=[]:=List.eq_nil_of_length_eq_zero hlen
  clear h hlen
  go_enter func60,ntmps60
  go_wp2
  refine bodyPost_ret (v:=.agg #[oN,oE]) (by simp [results,results60,go_sem]) rfl ?_
  exact Y108
 ·have hb0:Below w w ((w.alloc (.cells #[oN,oE] 26)).alloc (.cells #[.int .i64 0,.int .i64 0] 26)):=((Below.refl _ _).alloc (Nat.le_refl _) _).alloc (by simp) _
  obtain⟨ad,o,rfl,hab,ho,hop⟩:=op_at h (k:=n-1) (by omega)
  have hop2:=hop.below hb0 hab
  have hlast:lastOf oN oE os=(o.n,o.epoch):=by
   unfold lastOf
   rw [List.getLast?_eq_getElem?,hlen,ho]
  rw [hlast]
  obtain⟨k0,k1,k2,k3,k4,k5,k6,k7,k8⟩:=hop2
  have HB0:=J hb0
  clear h hop hb0 hlast ho hlen
  go_enter func60,ntmps60
  go_wp2_with fail
  refine (spot_any _ _ _ _ _ _ _ _ _ _).mono ?_
  rintro x w1 ⟨rfl,hb1⟩
  have hres:Blk ((w.alloc (.cells #[oN,oE] 26)).alloc (.cells #[.int .i64 0,.int .i64 0] 26)) (w.heap.size+1) 26 #[.int .i64 0,.int .i64 0]:=by
   have:=Blk.new (w.alloc (.cells #[oN,oE] 26)) 26 #[.int .i64 0,.int .i64 0]
   simpa using this
  have hr1:=hres.below hb1 hres.lt
  have f0:=hr1.frozen
  obtain⟨d0,d1⟩:=hr1.cs 0 2
  have HR1:=J hr1
  have HB1:=J (HB0.out.trans (hb1.mono HB0.out.size))
  clear hb1 hres hr1 k0 k1 k2 k3 k4 k5 k6 k7 k8
  go_wp2
  have e0:=(set2 HR1.out (.int .i64 o.n) (.int .i64 o.epoch)).cell 0
  have e1:=(set2 HR1.out (.int .i64 o.n) (.int .i64 o.epoch)).cell 1
  refine bodyPost_ret (v:=.agg #[.int .i64 o.n,o.epoch]) (by simp [results,results60,e0,e1,go_sem]) rfl ?_
  exact⟨rfl,(HB1.out.setCell (p:=⟨_,0,none⟩) (by simp) _).setCell (p:=⟨_,1,none⟩) (by simp) _⟩
theorem Try.infoOp:(prog.info? 45).map (fun i=>(i.zero,i.size,i.bytes))=some (some (.agg #[.int .i64 0,.int .i64 0,.int .i64 0,.int .i64 0,.int .i64 0,.int .i64 0,.string ⟨#[]⟩,.int .i64 0,.slice none 0 0]),9,96):=by kernel_rfl
theorem opsV_one (os:List Opd):∀ u∈opsV os,u.oneCell'=true:=by
 intro u hu
 simp only [opsV,List.mem_flatMap,Opd.cells] at hu
 obtain⟨o,_,ho⟩:=hu
 simp only [List.mem_cons,List.not_mem_nil,or_false] at ho
 rcases ho with rfl|rfl|rfl|rfl|rfl|rfl|rfl|rfl|rfl<;>rfl
theorem own_blk (h:w.ownsRow base e size v n xs) (hat:v.ownBlock=some o\/v.ownBlock=some b) :
 ∃ g c cur,v=.slice (some ⟨g,0,none⟩) n c/\n<=c/\c<=maxLen/\base<=g/\Blk w g e cur/\Reads w w.heap.size size (some ⟨g,0,none⟩) n xs:=by
 have h0:=h
 rcases h.2 with ⟨rfl,rfl⟩|⟨g,cap,cur,rfl,hg,hh,hn,hm,_⟩
 ·rcases hat with hat|hat<;>simp [Value.ownBlock] at hat
 ·exact⟨g,cap,cur,rfl,hn,hm,hg,hh,Reads.of_own (c:=cap) h0⟩
theorem cloneOps_some (ad:Addr) (n c:Nat) (os:List Opd) (w:World) (h:Reads w w.heap.size 9 (some ad) n (opsV os)) (hn:n<=4294967296) :
 Calls prog 98 #[.slice (some ad) n c] w fun x w'=>∃ g c' cur,x=.returned (.slice (some ⟨g,0,none⟩) n c')/\n<=c'/\c'<=maxLen/\w.heap.size<=g/\Blk w' g 45 cur/\Reads w' w'.heap.size 9 (some ⟨g,0,none⟩) n (opsV os)/\Below w w w':=by
 have HR:=J h
 clear h
 obtain⟨i0,hi0,hz0,hz1,hz2⟩:=info_parts Try.infoOp
 obtain⟨HI,HZ0,HZ1,HZ2⟩:=J4 hi0 hz0 hz1 hz2
 clear hi0 hz0 hz1 hz2
 have q:∀ (w:World),(binOp .eql 28 (.slice (some ad) n c) (.slice none 0 0)).run prog w=.ok (.bool false) w:=fun w=>Lib.run_eql_slice_nil w _ _ (some ad) n c 0 0 underlying28
 go_enter func98,ntmps98
 go_wp2_with (at_builtin;refine wpList_append_any _ rfl (.tmp 5) (.tmp 6) _ rfl w.heap.size 45 i0 _ 9 96 underlying28 HI.out HZ0.out HZ1.out HZ2.out rfl (by omega) (.slice (some ⟨w.heap.size,0,none⟩) 0 0) 0 [] rfl (own_empty w _ 9) w.heap.size (some ad) n c (opsV os) rfl (HR.out.alloc (Nat.le_refl _) _) (opsV_one os) ?c1 ?c2 ?c3 ?_)
 case c1=>unfold maxLen;omega
 case c2=>omega
 case c3=>simp
 intro v1 w2 hown hg hat
 try simp only [Nat.zero_add,List.nil_append] at hown
 have hb2:Below w w w2:=((Below.refl _ _).alloc (Nat.le_refl _) _).grown hg (by simp) (by intro k hk;simp [Value.ownBlock] at hk;omega)
 obtain⟨g1,c1,cur,rfl,hc1,hcm,hg1,hbk,hrd⟩:=own_blk hown hat
 obtain⟨HB,HD,HK⟩:=J3 hb2 hrd hbk
 clear hown hg hat hrd hb2 hbk
 go_wp2
 go_ret
 exact⟨_,_,cur,rfl,hc1,hcm,hg1,HK.out,HD.out,HB.out⟩
theorem cloneStr_nil (w:World):Calls prog 99 #[.slice none 0 0] w fun x w'=>x=.returned (.slice none 0 0)/\w'=w:=by
 go_enter func99,ntmps99
 have q:∀ (w:World),(binOp .eql 24 (.slice none 0 0) (.slice none 0 0)).run prog w=.ok (.bool true) w:=fun w=>Lib.run_eql_slice_nil w _ _ none 0 0 0 0 underlying24
 exact Y154
theorem copied_bare (ad:Addr) (n c:Nat) (os:List Opd) (w:World) (h:Reads w w.heap.size 9 (some ad) n (opsV os)) (hn:n<=4294967296) (hh:∀ o∈os,o.hA=none/\o.hn=0/\o.hc=0) :
 Calls prog 62 #[.slice (some ad) n c] w fun x w'=>∃ g c',x=.returned (.slice (some ⟨g,0,none⟩) n c')/\n<=c'/\w.heap.size<=g/\g<w'/\Below w w w':=by
 obtain⟨HH,HR⟩:=J2 hh h
 clear h hh
 go_enter func62,ntmps62
 go_wp2_with fail
 refine (cloneOps_some ad n c os w HR.out hn).mono ?_
 rintro x w1 ⟨g,c',cur,rfl,hc1,hcm,hg,hbk,hrd,hb⟩
 have hlen:=ops_len hrd
 have hcur:∀ k,k<n->cur[k*9+7+1]? = some (.slice none 0 0):=by
  intro k hk
  obtain⟨ad2,o,e,_,ho,hop⟩:=op_at hrd hk
  injection e with e
  subst e
  obtain⟨_,_,_,_,_,_,_,_,k8⟩:=hop
  obtain⟨e1,e2,e3⟩:=HH.out o (List.mem_of_getElem? ho)
  rw [e1,e2,e3] at k8
  have e:({block:=((⟨g,0,none⟩:Addr).add (k*9)).block,off:=((⟨g,0,none⟩:Addr).add (k*9)).off+8,spot:=none}:Addr)=⟨g,k*9+7+1,none⟩:=by
   unfold Addr.add
   by_cases hz:k*9=0
   ·rw [if_pos hz,hz]
   ·rw [if_neg hz];simp
  rw [e,hbk.cell] at k8
  exact k8
 have HB:=J hb
 clear hrd hb
 unfold maxLen at hcm
 go_wp2_with fail
 go_loopw [9] (fun i wr=>∃ (k:Nat) (cu:Array Value),k<=n/\i=.int .i64 k/\Blk wr g 45 cu/\(∀ k,k<n->cu[k*9+7+1]? = some (.slice none 0 0))/\Below w w wr) (fun i _=>n-(intOf i).toNat)
 case atStart=>exact⟨0,cur,by omega,rfl,hbk,hcur,HB.out⟩
 case round=>
  obtain⟨k,cu,hk,rfl,hbk,hcu,hb⟩:=hrel
  rcases Nat.lt_or_ge k n with hk1|hk1
  ·have d8:=hbk.cell (k*9+7+1)
   rw [hcu k hk1] at d8
   have f8:=hbk.frozen (k*9+7+1)
   obtain⟨HCU,HBK,HB2⟩:=J3 hcu hbk hb
   clear hcu hbk hb
   go_wp2_with fail
   refine (cloneStr_nil wr).mono ?_
   rintro x w3 ⟨rfl,rfl⟩
   go_wp2
   go_roundw
   case rel=>
    refine⟨k+1,cu.setIfInBounds (k*9+7+1) (.slice none 0 0),by omega,by go_num,HBK.out.set_ _ _,?_,HB2.out.setCell (p:=⟨g,_,none⟩) hg _⟩
    intro j hj
    have h1:=HCU.out j hj
    by_cases hjk:j=k
    ·subst hjk
     have h2:=(Array.getElem?_eq_some_iff.1 h1).1
     simp [h2]
    ·rw [Array.getElem?_setIfInBounds_ne (by omega)]
     exact h1
   case measure=>simp [intOf];omega
  ·obtain rfl:n=k:=by omega
   have hlt:=hbk.lt
   have HB2:=J hb
   clear hcu hbk hb
   go_wp2
   go_ret
   exact⟨g,c',rfl,hc1,hg,hlt,HB2.out⟩
theorem epochs_any (A:O) (n c:Nat) (os:List Opd) (w:World) (h:Reads w w.heap.size 9 A n (opsV os)) (hn:n<=4294967296) :
 Calls prog 56 #[.slice A n c] w fun x w'=>∃ g,x=.returned (.slice (some ⟨g,0,none⟩) n n)/\Reads w' w'.heap.size 1 (some ⟨g,0,none⟩) n (intV .i64 (os.map (·.epoch)))/\Below w w w':=by
 have hlen:=ops_len h
 obtain⟨HR,HL⟩:=J2 h hlen
 clear h hlen
 have hmk:=run_make_row' (P:=prog) 27 3 (.int .i64 0) 8 underlying27 Try.infoInt rfl .i64 .i64 n (w:=w) (by omega) (by omega)
 go_enter func56,ntmps56
 go_wp2_with fail
 have hbk:=Blk.new w 3 (madeCells #[.int .i64 0] n)
 have hb0:Below w w (w.alloc (.cells (madeCells #[.int .i64 0] n) 3)):=(Below.refl _ _).alloc (Nat.le_refl _) _
 obtain⟨W,hW⟩:∃ W,W=w.alloc (.cells (madeCells #[.int .i64 0] n) 3):=⟨_,rfl⟩
 rw [<-hW]
 rw [<-hW] at hb0 hbk
 have hsz:(madeCells #[.int .i64 0] n).size=n:=by simp [madeCells]
 obtain⟨c0,hc0⟩:∃ c0,c0=madeCells #[.int .i64 0] n:=⟨_,rfl⟩
 rw [<-hc0] at hbk hsz
 obtain⟨HB0,HBK⟩:=J2 hb0 hbk
 clear hW hc0 hmk hb0 hbk
 go_loopw [11] (fun i wr=>∃ (k:Nat) (cu:Array Value),k<=n/\i=.int .i64 k/\cu.size=n/\Blk wr w 3 cu/\(∀ j,j<k->cu[j]? = (intV .i64 (os.map (·.epoch)))[j]?)/\Below w w wr) (fun i _=>n-(intOf i).toNat)
 case atStart=>exact⟨0,c0,by omega,rfl,hsz,HBK.out,fun j hj=>absurd hj (by omega),HB0.out⟩
 case round=>
  obtain⟨k,cu,hk,rfl,hcs,hbk,hcu,hb⟩:=hrel
  obtain⟨HCU,HBK,HB,HCS⟩:=J4 hcu hbk hb hcs
  clear hcu hbk hb hcs hsz
  rcases Nat.lt_or_ge k n with hk1|hk1
  ·obtain⟨ad,o,rfl,hab,ho,hop⟩:=op_at (HR.out.below HB.out) hk1
   exact Y17
  ·obtain rfl:n=k:=by omega
   go_wp2
   go_ret
   refine⟨w.heap.size,rfl,⟨by simp [intV,HL.out],fun _=>⟨_,rfl,HBK.out.lt,fun j u hu=>?_⟩⟩,HB.out⟩
   exact Y59
end
section
variable {α:Type} {l:List α}
theorem len2 (h:l.length=2):∃ c0 c1,l=[c0,c1]:=by
 match l,h with
 | [c0,c1],_=>exact⟨c0,c1,rfl⟩
theorem len9 (h:l.length=9):∃ c0 c1 c2 c3 c4 c5 c6 c7 c8,l=[c0,c1,c2,c3,c4,c5,c6,c7,c8]:=by
 match l,h with
 | [c0,c1,c2,c3,c4,c5,c6,c7,c8],_=>exact⟨c0,c1,c2,c3,c4,c5,c6,c7,c8,rfl⟩
theorem len17 (h:l.length=17):∃ c0 c1 c2 c3 c4 c5 c6 c7 c8 c9 c10 c11 c12 c13 c14 c15 c16,l=[c0,c1,c2,c3,c4,c5,c6,c7,c8,c9,c10,c11,c12,c13,c14,c15,c16]:=by
 match l,h with
 | [c0,c1,c2,c3,c4,c5,c6,c7,c8,c9,c10,c11,c12,c13,c14,c15,c16],_=>exact⟨c0,c1,c2,c3,c4,c5,c6,c7,c8,c9,c10,c11,c12,c13,c14,c15,c16,rfl⟩
end
structure OpC where
 n:Int
 epoch:Int
 kind:Int
 site:Int
 client:Int
 seq:Int
 name:ByteArray
 size:Int
 hs:List ByteArray
 deriving Inhabited
def OpC.at_ (c:OpC) (A:O) (n cap:Nat):Opd:=⟨c.n,c.epoch,c.kind,c.site,c.client,c.seq,c.name,c.size,A,n,cap⟩
def I64 (x:Int):Prop:=-9223372036854775808<=x/\x<=9223372036854775807
structure OpC.Ok (c:OpC):Prop where
 n:I64 c.n
 epoch:I64 c.epoch
 kind:I64 c.kind
 site:I64 c.site
 client:I64 c.client
 seq:I64 c.seq
 name:c.name.size<=140737488351232
 size:I64 c.size
 hs:c.hs.length*16<=140737488351232
def Rs (w:World) (S:Nat->Prop) (size:Nat) (A:O) (n:Nat) (xs:List Value):Prop:=
 xs.length=n*size/\(0<n->∃ ad,A=some ad/\S ad.block/\ad.block<w/\∀ j u,xs[j]? = some u->w.cell? (ad.add j)=some u)
def Any:Nat->Prop:=fun _=>True
def From (lo:Nat):Nat->Prop:=fun b=>lo<=b
section
variable {w w':World} {S S':Nat->Prop} {size n:Nat} {A:O} {xs:List Value}
theorem Rs.reads (h:Rs w S size A n xs):Reads w w.heap.size size A n xs:=⟨h.1,fun hn=>by
 obtain⟨ad,h1,_,h2,h3⟩:=h.2 hn
 exact⟨ad,h1,h2,h3⟩⟩
theorem Rs.of (h:Reads w w.heap.size size A n xs) (hS:0<n->∀ ad,A=some ad->S ad.block):Rs w S size A n xs:=⟨h.1,fun hn=>by
 obtain⟨ad,h1,h2,h3⟩:=h.2 hn
 exact⟨ad,h1,hS hn ad h1,h2,h3⟩⟩
section
variable (h:Rs w S size A n xs)
include h
theorem Rs.keep (hs:w.heap.size<=w') (hk:∀ b,S b->b<w.heap.size->w'.heap[b]? = w.heap[b]?):Rs w' S size A n xs:=⟨h.1,fun hn=>by
 obtain⟨ad,h1,h2,h3,h4⟩:=h.2 hn
 refine⟨ad,h1,h2,Nat.lt_of_lt_of_le h3 hs,fun j u hu=>?_⟩
 rw [World.cell?_of_block (w:=w) (w':=w') (by rw [block_of_add];exact hk _ h2 h3)]
 exact h4 j u hu⟩
theorem Rs.mono (hi:∀ b,b<w.heap.size->S b->S' b):Rs w S' size A n xs:=⟨h.1,fun hn=>by
 obtain⟨ad,h1,h2,h3,h4⟩:=h.2 hn
 exact⟨ad,h1,hi _ h3 h2,h3,h4⟩⟩
theorem Rs.below (hb:Below w w w'):Rs w' S size A n xs:=h.keep hb.size fun b _ hlt=>hb.block b hlt
end
theorem Rs.nil_ (w:World) (S:Nat->Prop) (size:Nat) (A:O):Rs w S size A 0 []:=⟨by simp,fun h=>absurd h (by omega)⟩
end
def StrIs (w:World) (S:Nat->Prop) (A:O) (n cap:Nat) (ss:List ByteArray):Prop:=Rs w S 1 A n (strV ss)/\n<=cap/\cap<=maxLen
def OpIs (w:World) (S:Nat->Prop) (o:Opd) (c:OpC):Prop:=∃ A n cap,o=c.at_ A n cap/\StrIs w S A n cap c.hs
def OpsV (w:World) (S:Nat->Prop):List Opd->List OpC->Prop
 | [],[]=>True
 | o::os,c::cs=>OpIs w S o c/\OpsV w S os cs
 | _,_=>False
def OpsIs (w:World) (S:Nat->Prop) (A:O) (n cap:Nat) (cs:List OpC):Prop:=∃ os,Rs w S 9 A n (opsV os)/\OpsV w S os cs/\n<=cap/\cap<=maxLen
def Kept (S:Nat->Prop) (w w':World):Prop:=w.heap.size<=w'/\∀ b,S b->b<w.heap.size->w'.heap[b]? = w.heap[b]?
section
variable {S S':Nat->Prop} {row:Option Nat} {w w' w'':World}
theorem Kept.of (S:Nat->Prop) (h:Below w w w'):Kept S w w':=⟨h.size,fun b _ hb=>h.block b hb⟩
theorem Kept.refl (S:Nat->Prop) (w:World):Kept S w w:=⟨Nat.le_refl _,fun _ _ _=>rfl⟩
section
variable (h:Kept S w w')
include h
theorem Kept.trans (h':Kept S w' w''):Kept S w w'':=⟨Nat.le_trans h.1 h'.1,fun b h1 h2=>(h'.2 b h1 (Nat.lt_of_lt_of_le h2 h.1)).trans (h.2 b h1 h2)⟩
theorem Kept.below (hb:Below w'.heap.size w' w''):Kept S w w'':=h.trans (Kept.of S hb)
theorem Kept.alloc (o:Obj):Kept S w (w'.alloc o):=h.trans (Kept.of S ((Below.refl _ _).alloc (Nat.le_refl _) _))
theorem Kept.drewN (k:Nat):Kept S w (w'.drewN k):=h
theorem Kept.set_ (p:Addr) (hp:¬ S p.block\/w.heap.size<=p.block) (u:Value):Kept S w (w'.setCell p u):=
 ⟨by (have e:(w'.setCell p u).heap.size=w'.heap.size:=by simp);rw [e];exact h.1,fun b h1 h2=>(Below.heap_setCell w' p u b (by rintro rfl;rcases hp with h|h;exact h h1;omega)).trans (h.2 b h1 h2)⟩
theorem Kept.grown (hg:w'.grownBy w'' row) (hr:∀ k,row=some k->¬ S k\/w.heap.size<=k):Kept S w w'':=
 ⟨Nat.le_trans h.1 hg.size,fun b h1 h2=>(hg.block b (Nat.lt_of_lt_of_le h2 h.1) (fun e=>by rcases hr b e.symm with h|h;exact h h1;omega)).trans (h.2 b h1 h2)⟩
theorem Kept.mono (hi:∀ b,b<w.heap.size->S' b->S b):Kept S' w w':=⟨h.1,fun b h1 h2=>h.2 b (hi b h2 h1) h2⟩
end
end
section
variable {w w':World} {S S':Nat->Prop}
section
variable {ss:List ByteArray} {cap n:Nat} {A:O} {c:OpC} {o:Opd}
section
variable (h:StrIs w S A n cap ss)
include h
theorem StrIs.len:ss.length=n:=by
 have:=h.1.1;simpa [strV] using this
theorem StrIs.kept (hk:Kept S w w'):StrIs w' S A n cap ss:=⟨h.1.keep hk.1 hk.2,h.2⟩
theorem StrIs.below (hb:Below w w w'):StrIs w' S A n cap ss:=h.kept (Kept.of S hb)
theorem StrIs.mono (hi:∀ b,b<w.heap.size->S b->S' b):StrIs w S' A n cap ss:=⟨h.1.mono hi,h.2⟩
end
theorem OpIs.kept (h:OpIs w S o c) (hk:Kept S w w'):OpIs w' S o c:=by
 obtain⟨A,n,cap,h1,h2⟩:=h
 exact⟨A,n,cap,h1,h2.kept hk⟩
theorem OpIs.mono (h:OpIs w S o c) (hi:∀ b,b<w.heap.size->S b->S' b):OpIs w S' o c:=by
 obtain⟨A,n,cap,h1,h2⟩:=h
 exact⟨A,n,cap,h1,h2.mono hi⟩
theorem OpsV.len:∀ {os:List Opd} {cs:List OpC},OpsV w S os cs->os.length=cs.length
 | [],[],_=>rfl
 | _::_,_::_,h=>by rw [List.length_cons,List.length_cons,OpsV.len h.2]
 | [],_::_,h=>h.elim
 | _::_,[],h=>h.elim
end
theorem OpsV.imp {R:World} {D:Nat->Prop} (hi:∀ o c,OpIs w S o c->OpIs R D o c):∀ {os:List Opd} {cs:List OpC},OpsV w S os cs->OpsV R D os cs
 | [],[],_=>trivial
 | _::_,_::_,h=>⟨hi _ _ h.1,OpsV.imp hi h.2⟩
 | [],_::_,h=>h.elim
 | _::_,[],h=>h.elim
section
variable {cs:List OpC} {os:List Opd} {cap k n:Nat} {A:O}
theorem OpsV.kept (h:OpsV w S os cs) (hk:Kept S w w'):OpsV w' S os cs:=h.imp fun _ _ x=>x.kept hk
theorem OpsV.mono (h:OpsV w S os cs) (hi:∀ b,b<w.heap.size->S b->S' b):OpsV w S' os cs:=h.imp fun _ _ x=>x.mono hi
theorem OpsV.get:∀ {os:List Opd} {cs:List OpC},OpsV w S os cs->∀ (k:Nat) (o:Opd),os[k]? = some o->∃ c,cs[k]? = some c/\OpIs w S o c
 | [],[],_,k,o,h=>by simp at h
 | a::os,c::cs,h,0,o,ho=>by
  simp only [List.getElem?_cons_zero,Option.some.injEq] at ho
  subst ho
  exact⟨c,rfl,h.1⟩
 | a::os,c::cs,h,k+1,o,ho=>OpsV.get h.2 k o (by simpa using ho)
 | [],_::_,h,_,_,_=>h.elim
 | _::_,[],h,_,_,_=>h.elim
theorem OpsV.snoc:∀ {os:List Opd} {cs:List OpC} {o:Opd} {c:OpC},OpsV w S os cs->OpIs w S o c->OpsV w S (os++[o]) (cs++[c])
 | [],[],_,_,_,h=>⟨h,trivial⟩
 | _::_,_::_,_,_,h,h'=>⟨h.1,OpsV.snoc h.2 h'⟩
 | [],_::_,_,_,h,_=>h.elim
 | _::_,[],_,_,h,_=>h.elim
theorem OpsV.take:∀ {os:List Opd} {cs:List OpC} (k:Nat),OpsV w S os cs->OpsV w S (os.take k) (cs.take k)
 | [],[],_,_=>by simp [OpsV]
 | _::_,_::_,0,_=>trivial
 | _::_,_::_,k+1,h=>⟨h.1,OpsV.take k h.2⟩
 | [],_::_,_,h=>h.elim
 | _::_,[],_,h=>h.elim
theorem OpsV.drop:∀ {os:List Opd} {cs:List OpC} (k:Nat),OpsV w S os cs->OpsV w S (os.drop k) (cs.drop k)
 | [],[],_,_=>by simp [OpsV]
 | _::_,_::_,0,h=>h
 | _::_,_::_,k+1,h=>OpsV.drop k h.2
 | [],_::_,_,h=>h.elim
 | _::_,[],_,h=>h.elim
theorem opsV_append (a b:List Opd):opsV (a++b)=opsV a++opsV b:=by simp [opsV]
theorem opsV_take (os:List Opd) (k:Nat) (h:k<=os.length):(opsV os).take (k*9)=opsV (os.take k):=by
 have e:opsV os=opsV (os.take k)++opsV (os.drop k):=by rw [<-opsV_append,List.take_append_drop]
 rw [e,List.take_append_of_le_length (by rw [opsV_len,List.length_take];omega),List.take_of_length_le (by rw [opsV_len,List.length_take];omega)]
theorem opsV_drop (os:List Opd) (k:Nat) (h:k<=os.length):(opsV os).drop (k*9)=opsV (os.drop k):=by
 have e:opsV os=opsV (os.take k)++opsV (os.drop k):=by rw [<-opsV_append,List.take_append_drop]
 have hl:(opsV (os.take k)).length=k*9:=by rw [opsV_len,List.length_take];omega
 rw [e,<-hl,List.drop_left]
section
variable (h:OpsIs w S A n cap cs)
include h
theorem OpsIs.kept (hk:Kept S w w'):OpsIs w' S A n cap cs:=by
 obtain⟨os,h1,h2,h3⟩:=h
 exact⟨os,h1.keep hk.1 hk.2,h2.kept hk,h3⟩
theorem OpsIs.below (hb:Below w w w'):OpsIs w' S A n cap cs:=h.kept (Kept.of S hb)
theorem OpsIs.mono (hi:∀ b,b<w.heap.size->S b->S' b):OpsIs w S' A n cap cs:=by
 obtain⟨os,h1,h2,h3⟩:=h
 exact⟨os,h1.mono hi,h2.mono hi,h3⟩
theorem OpsIs.len:cs.length=n:=by
 obtain⟨os,h1,h2,h3⟩:=h
 have:=h1.1
 rw [opsV_len,h2.len] at this
 omega
theorem OpsIs.at_ (hk:k<n) :
 ∃ ad c hA hn hc,A=some ad/\(ad.add (k*9)).block<w/\cs[k]? = some c/\OpAt w (ad.add (k*9)) (c.at_ hA hn hc)/\StrIs w S hA hn hc c.hs:=by
 have hl:=h.len
 obtain⟨os,h1,h2,h3⟩:=h
 obtain⟨ad,o,rfl,hb,ho,hop⟩:=op_at h1.reads hk
 obtain⟨c,hc,hA,hn,hcap,e,hs⟩:=h2.get k o ho
 subst e
 exact⟨ad,c,hA,hn,hcap,rfl,hb,hc,hop,hs⟩
end
theorem OpsIs.nil_ (w:World) (S:Nat->Prop) (A:O) (cap:Nat) (hc:cap<=maxLen):OpsIs w S A 0 cap []:=⟨[],Rs.nil_ _ _ _ _,trivial,Nat.zero_le _,hc⟩
end
end
def entV (es:List (Int×ByteArray)):List Value:=es.flatMap fun e=>[.int .i64 e.1,.string e.2]
theorem entV_len (es:List (Int×ByteArray)):(entV es).length=es.length*2:=by
 induction es with
 | nil=>rfl
 | cons a l ih=>simp only [entV,List.flatMap_cons,List.length_append,List.length_cons,List.length_nil] at ih ⊢;rw [ih];omega
theorem entV_one (es:List (Int×ByteArray)):∀ u∈entV es,u.oneCell'=true:=by
 intro u hu
 simp only [entV,List.mem_flatMap,List.mem_cons,List.not_mem_nil,or_false] at hu
 obtain⟨e,_,rfl|rfl⟩:=hu<;>rfl
structure MailC where
 kind:Int
 term:Int
 index:Int
 prev:Int
 commit:Int
 good:Bool
 ents:List (Int×ByteArray)
 data:ByteArray
 hs:List ByteArray
 epoch:Int
 site:Int
 atN:Int
 atE:Int
 whN:Int
 whE:Int
 holes:List Int
 ops:List OpC
structure MailC.Ok (m:MailC):Prop where
 kind:I64 m.kind
 term:I64 m.term
 index:I64 m.index
 prev:I64 m.prev
 commit:I64 m.commit
 ents:m.ents.length*24<=140737488351232
 data:m.data.size<=140737488351232
 hs:m.hs.length*16<=140737488351232
 epoch:I64 m.epoch
 site:I64 m.site
 atN:I64 m.atN
 atE:I64 m.atE
 whN:I64 m.whN
 whE:I64 m.whE
 holes:m.holes.length*8<=140737488351232
 hole:∀ z∈m.holes,I64 z
 ops:m.ops.length*96<=140737488351232
 op:∀ o∈m.ops,o.Ok
def IntIs (w:World) (S:Nat->Prop) (A:O) (n cap:Nat) (zs:List Int):Prop:=Rs w S 1 A n (intV .i64 zs)/\n<=cap/\cap<=maxLen
def EntIs (w:World) (S:Nat->Prop) (A:O) (n cap:Nat) (es:List (Int×ByteArray)):Prop:=Rs w S 2 A n (entV es)/\n<=cap/\cap<=maxLen
def MailIs (w:World) (S:Nat->Prop) (cells:Array Value) (m:MailC):Prop:=
 ∃ eA en ec hA hn hc oA on oc pA pn pc,cells=mailC m.kind m.term m.index m.prev m.commit m.good eA en ec m.data hA hn hc m.epoch m.site m.atN m.atE m.whN m.whE oA on oc pA pn pc/\
  EntIs w S eA en ec m.ents/\StrIs w S hA hn hc m.hs/\IntIs w S oA on oc m.holes/\OpsIs w S pA pn pc m.ops
section
variable {w w':World} {S S':Nat->Prop}
section
variable {cells:Array Value} {ss:List Int} {m:MailC} {cap n:Nat} {A:O}
section
variable (h:IntIs w S A n cap ss)
include h
theorem IntIs.kept (hk:Kept S w w'):IntIs w' S A n cap ss:=⟨h.1.keep hk.1 hk.2,h.2⟩
theorem IntIs.below (hb:Below w w w'):IntIs w' S A n cap ss:=h.kept (Kept.of S hb)
theorem IntIs.mono (hi:∀ b,b<w.heap.size->S b->S' b):IntIs w S' A n cap ss:=⟨h.1.mono hi,h.2⟩
theorem IntIs.len:ss.length=n:=ints_len h.1.reads
end
theorem EntIs.kept {ss:List (Int×ByteArray)} (h:EntIs w S A n cap ss) (hk:Kept S w w'):EntIs w' S A n cap ss:=⟨h.1.keep hk.1 hk.2,h.2⟩
theorem EntIs.below {ss:List (Int×ByteArray)} (h:EntIs w S A n cap ss) (hb:Below w w w'):EntIs w' S A n cap ss:=h.kept (Kept.of S hb)
theorem EntIs.mono {ss:List (Int×ByteArray)} (h:EntIs w S A n cap ss) (hi:∀ b,b<w.heap.size->S b->S' b):EntIs w S' A n cap ss:=⟨h.1.mono hi,h.2⟩
theorem EntIs.len {ss:List (Int×ByteArray)} (h:EntIs w S A n cap ss):ss.length=n:=by have:=h.1.1;rw [entV_len] at this;omega
section
variable (h:MailIs w S cells m)
include h
theorem MailIs.kept (hk:Kept S w w'):MailIs w' S cells m:=by
 obtain⟨eA,en,ec,hA,hn,hc,oA,on,oc,pA,pn,pc,h0,h1,h2,h3,h4⟩:=h
 exact⟨eA,en,ec,hA,hn,hc,oA,on,oc,pA,pn,pc,h0,h1.kept hk,h2.kept hk,h3.kept hk,h4.kept hk⟩
theorem MailIs.below (hb:Below w w w'):MailIs w' S cells m:=h.kept (Kept.of S hb)
theorem MailIs.mono (hi:∀ b,b<w.heap.size->S b->S' b):MailIs w S' cells m:=by
 obtain⟨eA,en,ec,hA,hn,hc,oA,on,oc,pA,pn,pc,h0,h1,h2,h3,h4⟩:=h
 exact⟨eA,en,ec,hA,hn,hc,oA,on,oc,pA,pn,pc,h0,h1.mono hi,h2.mono hi,h3.mono hi,h4.mono hi⟩
end
end
end
section
variable {H:Type} {enc:TypeId×Value->H} {w:World} {cs:List Value}
section
variable {fs:Array Field} {n off:Nat} {P:Program} {ty:TypeId}
theorem Try.cInt:prog.cellsOf 3=1:=by kernel_rfl
theorem Try.cStr:prog.cellsOf 9=1:=by kernel_rfl
theorem Try.cBool:prog.cellsOf 4=1:=by kernel_rfl
theorem Try.cSheet:prog.cellsOf 43=2:=by kernel_rfl
theorem Try.cSpot:prog.cellsOf 26=2:=by kernel_rfl
theorem Try.cEntry:prog.cellsOf 150=2:=by kernel_rfl
theorem Try.cOp:prog.cellsOf 45=9:=by kernel_rfl
theorem Try.cMail:prog.cellsOf 30=17:=by kernel_rfl
theorem Try.cStrs:prog.cellsOf 24=1:=by kernel_rfl
theorem Try.cInts:prog.cellsOf 27=1:=by kernel_rfl
theorem Try.cEnts:prog.cellsOf 23=1:=by kernel_rfl
theorem Try.cOps:prog.cellsOf 28=1:=by kernel_rfl
theorem Try.bInt:prog.bytesOf 3=8:=by kernel_rfl
theorem Try.bStr:prog.bytesOf 9=16:=by kernel_rfl
theorem Try.bEntry:prog.bytesOf 150=24:=by kernel_rfl
theorem Try.bOp:prog.bytesOf 45=96:=by kernel_rfl
theorem Try.bMail:prog.bytesOf 30=208:=by kernel_rfl
theorem fld (hf:∀ (i:Nat) (f:Field),fs[i]? = some f->Rd H enc P w f.type ((cs.drop f.offset).take (P.cellsOf f.type))) (i:Nat) (hi:(fs[i]?).map (fun f=>(f.type,f.offset))=some (ty,off)) (hn:P.cellsOf ty=n):Rd H enc P w ty ((cs.drop off).take n):=by
 cases hx:fs[i]? with
 | none=>rw [hx] at hi;cases hi
 | some f=>
  rw [hx] at hi
  injection hi with hi
  injection hi with h1 h2
  have:=hf i f hx
  rw [h1,h2,hn] at this
  exact this
theorem rd_strs (h:Rd H enc prog w 24 cs):∃ A n c ss,cs=[.slice A n c]/\StrIs w Any A n c ss/\c*16<=140737488351232:=by
 obtain⟨A,n,c,ss,h1,h2,h3,h4,h5,_⟩:=h.strings underlying24 underlying9 Try.cStr Try.bStr
 exact⟨A,n,c,ss,h1,⟨Rs.of h2 fun _ _ _=>trivial,h4,by unfold maxLen;omega⟩,h5⟩
theorem rd_ints (h:Rd H enc prog w 27 cs):∃ A n c zs,cs=[.slice A n c]/\IntIs w Any A n c zs/\c*8<=140737488351232/\∀ z∈zs,I64 z:=by
 obtain⟨A,n,c,ss,h1,h2,h3,h4,h5,_,h6⟩:=h.ints underlying27 underlying3 Try.cInt Try.bInt
 exact⟨A,n,c,ss,h1,⟨Rs.of h2 fun _ _ _=>trivial,h4,by unfold maxLen;omega⟩,h5,h6⟩
theorem rd_ents (h:Rd H enc prog w 23 cs):∃ A n c es,cs=[.slice A n c]/\EntIs w Any A n c es/\c*24<=140737488351232:=by
 obtain⟨A,n,c,es,h1,h2,h3,h4,h5,_⟩:=h.list (α:=Int×ByteArray) (size:=2) underlying23 Try.cEntry Try.bEntry (by omega) (fun e=>[.int .i64 e.1,.string e.2]) (fun _=>True) (fun cs' hl hr=>by
  obtain⟨_,hf⟩:=hr.struct_ underlying150
  obtain⟨c0,c1,rfl⟩:=len2 hl
  have h0:=fld hf 0 (ty:=3) (off:=0) (by rfl) Try.cInt
  have h1:=fld hf 1 (ty:=9) (off:=1) (by rfl) Try.cStr
  simp only [List.drop,List.take] at h0 h1
  obtain⟨n,e0,_⟩:=h0.i64 underlying3
  obtain⟨s,e1,_⟩:=h1.string underlying9
  injection e0 with e0 _
  injection e1 with e1 _
  subst e0
  subst e1
  exact⟨(n,s),rfl,trivial⟩)
 exact⟨A,n,c,es,h1,⟨Rs.of h2 fun _ _ _=>trivial,h4,by unfold maxLen;omega⟩,h5⟩
end
structure OpX where
 c:OpC
 A:Option Addr
 n:Nat
 cap:Nat
 deriving Inhabited
theorem rd_op (hl:cs.length=9) (hr:Rd H enc prog w 45 cs):∃ x:OpX,cs=(x.c.at_ x.A x.n x.cap).cells/\StrIs w Any x.A x.n x.cap x.c.hs/\x.c.Ok:=by
 obtain⟨_,hf⟩:=hr.struct_ underlying45
 obtain⟨c0,c1,c2,c3,c4,c5,c6,c7,c8,rfl⟩:=len9 hl
 have h0:=fld hf 0 (ty:=3) (off:=0) (by rfl) Try.cInt
 have h1:=fld hf 1 (ty:=3) (off:=1) (by rfl) Try.cInt
 have h2:=fld hf 2 (ty:=3) (off:=2) (by rfl) Try.cInt
 have h3:=fld hf 3 (ty:=3) (off:=3) (by rfl) Try.cInt
 have h4:=fld hf 4 (ty:=3) (off:=4) (by rfl) Try.cInt
 have h5:=fld hf 5 (ty:=3) (off:=5) (by rfl) Try.cInt
 have h6:=fld hf 6 (ty:=9) (off:=6) (by rfl) Try.cStr
 have h7:=fld hf 7 (ty:=43) (off:=7) (by rfl) Try.cSheet
 simp only [List.drop,List.take] at h0 h1 h2 h3 h4 h5 h6 h7
 obtain⟨n,e0,k0⟩:=h0.i64 underlying3
 obtain⟨epoch,e1,k1⟩:=h1.i64 underlying3
 obtain⟨kind,e2,k2⟩:=h2.i64 underlying3
 obtain⟨site,e3,k3⟩:=h3.i64 underlying3
 obtain⟨client,e4,k4⟩:=h4.i64 underlying3
 obtain⟨seq,e5,k5⟩:=h5.i64 underlying3
 obtain⟨name,e6,k6⟩:=h6.string underlying9
 obtain⟨_,hg⟩:=h7.struct_ underlying43
 have g0:=fld hg 0 (ty:=3) (off:=0) (by rfl) Try.cInt
 have g1:=fld hg 1 (ty:=24) (off:=1) (by rfl) Try.cStrs
 simp only [List.drop,List.take] at g0 g1
 obtain⟨size,e7,k7⟩:=g0.i64 underlying3
 obtain⟨A,hn,hc,hs,e8,k8,k9⟩:=rd_strs g1
 injection e0 with e0 _
 injection e1 with e1 _
 injection e2 with e2 _
 injection e3 with e3 _
 injection e4 with e4 _
 injection e5 with e5 _
 injection e6 with e6 _
 injection e7 with e7 _
 injection e8 with e8 _
 subst e0 e1 e2 e3 e4 e5 e6 e7 e8
 have:=k8.len
 have:=k8.2.1
 exact⟨⟨⟨n,epoch,kind,site,client,seq,name,size,hs⟩,A,hn,hc⟩,rfl,k8,⟨k0,k1,k2,k3,k4,k5,k6,k7,by show hs.length*16<=_;omega⟩⟩
theorem opsX (w:World) (xs:List OpX) (h:∀ x∈xs,StrIs w Any x.A x.n x.cap x.c.hs/\x.c.Ok):OpsV w Any (xs.map fun x=>x.c.at_ x.A x.n x.cap) (xs.map (·.c)):=by
 induction xs with
 | nil=>trivial
 | cons x l ih=>exact⟨⟨x.A,x.n,x.cap,rfl,(h x (List.mem_cons_self ..)).1⟩,ih fun y hy=>h y (List.mem_cons_of_mem _ hy)⟩
theorem rd_ops (h:Rd H enc prog w 28 cs):∃ A n c os,cs=[.slice A n c]/\OpsIs w Any A n c os/\c*96<=140737488351232/\∀ o∈os,o.Ok:=by
 obtain⟨A,n,c,xs,h1,h2,h3,h4,h5,_,h6⟩:=h.list (α:=OpX) (size:=9) underlying28 Try.cOp Try.bOp (by omega) (fun x=>(x.c.at_ x.A x.n x.cap).cells) (fun x=>StrIs w Any x.A x.n x.cap x.c.hs/\x.c.Ok) (fun cs' hl hr=>rd_op hl hr)
 refine⟨A,n,c,xs.map (·.c),h1,⟨xs.map fun x=>x.c.at_ x.A x.n x.cap,?_,opsX w xs h6,h4,by unfold maxLen;omega⟩,h5,fun o ho=>?_⟩
 ·have e:opsV (xs.map fun x=>x.c.at_ x.A x.n x.cap)=xs.flatMap fun x=>(x.c.at_ x.A x.n x.cap).cells:=by simp [opsV,List.flatMap_map]
  rw [e]
  exact Rs.of h2 fun _ _ _=>trivial
 ·obtain⟨x,hx,rfl⟩:=List.mem_map.1 ho
  exact (h6 x hx).2
theorem rd_spot (h:Rd H enc prog w 26 cs):∃ n e,cs=[.int .i64 n,.int .i64 e]/\I64 n/\I64 e:=by
 obtain⟨hl,hf⟩:=h.struct_ underlying26
 rw [Try.cSpot] at hl
 obtain⟨c0,c1,rfl⟩:=len2 hl
 have h0:=fld hf 0 (ty:=3) (off:=0) (by rfl) Try.cInt
 have h1:=fld hf 1 (ty:=3) (off:=1) (by rfl) Try.cInt
 simp only [List.drop,List.take] at h0 h1
 obtain⟨n,e0,k0⟩:=h0.i64 underlying3
 obtain⟨e,e1,k1⟩:=h1.i64 underlying3
 injection e0 with e0 _
 injection e1 with e1 _
 subst e0 e1
 exact⟨n,e,rfl,k0,k1⟩
theorem rd_mail (hl:cs.length=17) (hr:Rd H enc prog w 30 cs):∃ m:MailC,MailIs w Any cs.toArray m/\m.Ok:=by
 obtain⟨_,hf⟩:=hr.struct_ underlying30
 obtain⟨c0,c1,c2,c3,c4,c5,c6,c7,c8,c9,c10,c11,c12,c13,c14,c15,c16,rfl⟩:=len17 hl
 have h0:=fld hf 0 (ty:=3) (off:=0) (by rfl) Try.cInt
 have h1:=fld hf 1 (ty:=3) (off:=1) (by rfl) Try.cInt
 have h2:=fld hf 2 (ty:=3) (off:=2) (by rfl) Try.cInt
 have h3:=fld hf 3 (ty:=3) (off:=3) (by rfl) Try.cInt
 have h4:=fld hf 4 (ty:=3) (off:=4) (by rfl) Try.cInt
 have h5:=fld hf 5 (ty:=4) (off:=5) (by rfl) Try.cBool
 have h6:=fld hf 6 (ty:=23) (off:=6) (by rfl) Try.cEnts
 have h7:=fld hf 7 (ty:=9) (off:=7) (by rfl) Try.cStr
 have h8:=fld hf 8 (ty:=24) (off:=8) (by rfl) Try.cStrs
 have h9:=fld hf 9 (ty:=3) (off:=9) (by rfl) Try.cInt
 have h10:=fld hf 10 (ty:=3) (off:=10) (by rfl) Try.cInt
 have h11:=fld hf 11 (ty:=26) (off:=11) (by rfl) Try.cSpot
 have h12:=fld hf 12 (ty:=26) (off:=13) (by rfl) Try.cSpot
 have h13:=fld hf 13 (ty:=27) (off:=15) (by rfl) Try.cInts
 have h14:=fld hf 14 (ty:=28) (off:=16) (by rfl) Try.cOps
 simp only [List.drop,List.take] at h0 h1 h2 h3 h4 h5 h6 h7 h8 h9 h10 h11 h12 h13 h14
 obtain⟨kind,e0,k0⟩:=h0.i64 underlying3
 obtain⟨term,e1,k1⟩:=h1.i64 underlying3
 obtain⟨index,e2,k2⟩:=h2.i64 underlying3
 obtain⟨prev,e3,k3⟩:=h3.i64 underlying3
 obtain⟨commit,e4,k4⟩:=h4.i64 underlying3
 obtain⟨good,e5⟩:=h5.bool underlying4
 obtain⟨eA,en,ec,ents,e6,k6,z6⟩:=rd_ents h6
 obtain⟨data,e7,k7⟩:=h7.string underlying9
 obtain⟨hA,hn,hc,hs,e8,k8,z8⟩:=rd_strs h8
 obtain⟨epoch,e9,k9⟩:=h9.i64 underlying3
 obtain⟨site,e10,k10⟩:=h10.i64 underlying3
 obtain⟨aN,aE,e11,k11,k11'⟩:=rd_spot h11
 obtain⟨wN,wE,e12,k12,k12'⟩:=rd_spot h12
 obtain⟨oA,on,oc,holes,e13,k13,z13,y13⟩:=rd_ints h13
 obtain⟨pA,pn,pc,ops,e14,k14,z14,y14⟩:=rd_ops h14
 injection e0 with e0 _
 injection e1 with e1 _
 injection e2 with e2 _
 injection e3 with e3 _
 injection e4 with e4 _
 injection e5 with e5 _
 injection e6 with e6 _
 injection e7 with e7 _
 injection e8 with e8 _
 injection e9 with e9 _
 injection e10 with e10 _
 injection e11 with e11 e11'
 injection e11' with e11' _
 injection e12 with e12 e12'
 injection e12' with e12' _
 injection e13 with e13 _
 injection e14 with e14 _
 subst e0 e1 e2 e3 e4 e5 e6 e7 e8 e9 e10 e11 e11' e12 e12' e13 e14
 have l6:=k6.len
 have l8:=k8.len
 have l13:=k13.len
 have l14:=k14.len
 have c6:=k6.2.1
 have c8:=k8.2.1
 have c13:=k13.2.1
 have c14:pn<=pc:=by obtain⟨_,_,_,h,_⟩:=k14;exact h
 exact⟨⟨kind,term,index,prev,commit,good,ents,data,hs,epoch,site,aN,aE,wN,wE,holes,ops⟩,⟨eA,en,ec,hA,hn,hc,oA,on,oc,pA,pn,pc,rfl,k6,k8,k13,k14⟩,
  ⟨k0,k1,k2,k3,k4,by show ents.length*24<=_;omega,k7,by show hs.length*16<=_;omega,k9,k10,k11,k11',k12,k12',by show holes.length*8<=_;omega,y13,by show ops.length*96<=_;omega,y14⟩⟩
end
end Go.Proofs.Ytaipgdhdfpemcaa
