/- THE WALKS OF THE LANE, part 10. -/
import Derived.Test.YtaipgdhdfpemcaaG7
import Derived.Test.YtaipgdhdfpemcaaG9
namespace Go.Proofs.Ytaipgdhdfpemcaa
set_option linter.all false
open Go.RowKit Go.Proofs.Try
set_option maxRecDepth 100000
set_option maxHeartbeats 4000000
def OpC.big (c:OpC):Nat:=4+min c.name.size 1048576+c.hs.length
def bigOf (cs:List OpC):Nat:=(cs.map OpC.big).sum
section
variable {cs:List OpC} {S:Nat->Prop} {c:OpC}
theorem bigOf_take (cs:List OpC) (k:Nat) (c:OpC) (h:cs[k]? = some c):bigOf (cs.take (k+1))=bigOf (cs.take k)+c.big:=by
 unfold bigOf
 rw [List.take_add_one,h]
 simp
theorem bigOf_le (cs:List OpC) (k:Nat):bigOf (cs.take k)<=bigOf cs:=by
 have e:cs=cs.take k++cs.drop k:=(List.take_append_drop k cs).symm
 have:bigOf cs=bigOf (cs.take k)+bigOf (cs.drop k):=by
  conv=>lhs;rw [e]
  unfold bigOf
  rw [List.map_append,List.sum_append]
 omega
theorem bigOf_mem (h:c∈cs):c.big<=bigOf cs:=by
 induction cs with
 | nil=>cases h
 | cons a l ih=>
  have e:bigOf (a::l)=a.big+bigOf l:=by simp [bigOf]
  rcases List.mem_cons.1 h with rfl|h
  ·omega
  ·have:=ih h;omega
theorem bigOf_len (cs:List OpC):cs.length*4<=bigOf cs:=by
 induction cs with
 | nil=>exact Nat.zero_le _
 | cons a l ih=>
  have e:bigOf (a::l)=a.big+bigOf l:=by simp [bigOf]
  have:4<=a.big:=by unfold OpC.big;omega
  rw [List.length_cons]
  omega
theorem great_any (A:O) (n cap:Nat) (cs:List OpC) (w:World) (h:OpsIs w S A n cap cs) (hn:n*96<=140737488351232) (hok:∀ c∈cs,c.Ok) :
 Calls prog 12 #[.slice A n cap] w fun e w'=>e=.returned (.bool (decide (4096<bigOf cs)))/\Below w w w':=by
 have hlen:=h.len
 obtain⟨HR,HL,HO⟩:=J3 h hlen hok
 clear h hlen hok
 go_enter func12,ntmps12
 go_wp2_with fail
 go_loopw [3,8] (fun s i wr=>∃ k:Nat,k<=n/\i=.int .i64 k/\s=.int .i64 (bigOf (cs.take k):Nat)/\bigOf (cs.take k)<=4096/\Below w w wr) (fun _ i _=>n-(intOf i).toNat)
 case atStart=>exact⟨0,by omega,rfl,by simp [bigOf],by simp [bigOf],Below.refl _ _⟩
 case round=>
  obtain⟨k,hk,rfl,rfl,hle,hb⟩:=hrel
  have HB:=J hb
  clear hb
  obtain⟨S,hS⟩:∃ S,S=bigOf (cs.take k):=⟨_,rfl⟩
  rw [<-hS] at hle ⊢
  have HS:=J hS
  clear hS
  rcases Nat.lt_or_ge k n with hk1|hk1
  ·obtain⟨ad,c,hA,hn',hc,rfl,hab,hck,hop,hss⟩:=(HR.out.below HB.out).at_ hk1
   have hl:=hss.len
   have ho:=HO.out c (List.mem_of_getElem? hck)
   have hz1:=ho.name
   have hz2:hn'*16<=140737488351232:=by have:=ho.hs;omega
   have hbig:c.big=4+min c.name.size 1048576+hn':=by unfold OpC.big;omega
   have htk:=bigOf_take cs k c hck
   rw [<-HS.out,hbig] at htk
   have HTK:=J htk
   have hpos:bigOf (cs.take (k+1))<=bigOf cs:=bigOf_le cs (k+1)
   have HP:=J hpos
   obtain⟨k0,k1,k2,k3,k4,k5,k6,k7,k8⟩:=hop
   simp only [OpC.at_] at k0 k1 k2 k3 k4 k5 k6 k7 k8
   obtain⟨x1,x2,x3,x4,x5,x6,x7,x8,x9⟩:=c
   simp only at *
   clear hck hss hl ho hbig htk hpos
   obtain⟨G,hG⟩:∃ G,G=bigOf (cs.take (k+1)):=⟨_,rfl⟩
   rw [<-hG] at HTK HP
   have HG:=J hG
   clear hG
   by_cases hm:1048576<x7.size
   ·have hg:G=S+(1048580+hn'):=by have:=HTK.out;omega
    exact Y36
   ·have hg:G=S+(4+x7.size+hn'):=by have:=HTK.out;omega
    exact Y36
  ·obtain rfl:n=k:=by omega
   have e:bigOf cs=S:=by rw [HS.out,List.take_of_length_le (by rw [HL.out];exact Nat.le_refl _)]
   have HE:=J e
   clear e
   go_wp2
   go_ret
   exact⟨ret_bool' (by rw [HE.out];simp;omega),HB.out⟩
end
def MailC.heavy (m:MailC):Bool:=decide (100<m.ents.length+m.hs.length+m.ops.length)||decide (4096<bigOf m.ops)||decide (1000<m.data.size)
theorem heavy_any (cells:Array Value) (m:MailC) (w:World) {S:Nat->Prop} (h:MailIs w S cells m) (hok:m.Ok) :
 Calls prog 11 #[.agg cells] w fun e w'=>e=.returned (.bool m.heavy)/\Below w w w':=by
 obtain⟨eA,en,ec,hA,hn,hc,oA,on,oc,pA,pn,pc,rfl,h1,h2,h3,h4⟩:=h
 have l1:=h1.len
 have l2:=h2.len
 have l4:=h4.len
 have hh:m.heavy=(decide (100<en+hn+pn)||decide (4096<bigOf m.ops)||decide (1000<m.data.size)):=by unfold MailC.heavy;rw [l1,l2,l4]
 have z1:en*24<=140737488351232:=by rw [<-l1];exact hok.ents
 have z2:hn*16<=140737488351232:=by rw [<-l2];exact hok.hs
 have z4:pn*96<=140737488351232:=by rw [<-l4];exact hok.ops
 have z3:=hok.data
 have hgr:=fun W (hb:Below w w W)=>great_any pA pn pc m.ops W (h4.below hb) z4 hok.op
 have HG:=J hgr
 have hb0:Below w w (w.alloc (.cells (mailC m.kind m.term m.index m.prev m.commit m.good eA en ec m.data hA hn hc m.epoch m.site m.atN m.atE m.whN m.whE oA on oc pA pn pc) 30)):=(Below.refl _ _).alloc (Nat.le_refl _) _
 have HB0:=J hb0
 have hbk:=Blk.new w 30 (mailC m.kind m.term m.index m.prev m.commit m.good eA en ec m.data hA hn hc m.epoch m.site m.atN m.atE m.whN m.whE oA on oc pA pn pc)
 have HBK:=J hbk
 rw [hh]
 clear h1 h2 h3 h4 l1 l2 l4 hok hgr hb0 hh hbk
 by_cases hbig:100<en+hn+pn
 ·have d1:decide (100<en+hn+pn)=true:=decide_eq_true hbig
  rw [d1]
  clear d1
  go_enter func11,ntmps11
  have d2:decide ((100:Int)<(en:Int)+(hn:Int)+(pn:Int))=true:=decide_eq_true (by omega)
  go_wp2
  go_ret
  exact⟨ret_bool' (by simp),HB0.out⟩
 ·have d1:decide (100<en+hn+pn)=false:=decide_eq_false hbig
  rw [d1]
  clear d1
  obtain⟨b,hb⟩:∃ b,b=decide (4096<bigOf m.ops):=⟨_,rfl⟩
  rw [<-hb]
  have HG2:=HG.out
  rw [<-hb] at HG2
  have HG3:=J HG2
  clear HG HG2 hb
  cases b with
  | true=>
   go_enter func11,ntmps11
   have d2:decide ((100:Int)<(en:Int)+(hn:Int)+(pn:Int))=false:=decide_eq_false (by omega)
   go_wp2_with fail
   refine (HG3.out _ HB0.out).mono ?_
   rintro e w1 ⟨rfl,hb1⟩
   have HB1:=J (HB0.out.trans (hb1.mono HB0.out.size))
   clear hb1
   go_wp2
   go_ret
   exact⟨rfl,HB1.out⟩
  | false=>
   by_cases hd:1000<m.data.size
   ·have d3:decide (1000<m.data.size)=true:=decide_eq_true hd
    rw [d3]
    clear d3
    go_enter func11,ntmps11
    have d2:decide ((100:Int)<(en:Int)+(hn:Int)+(pn:Int))=false:=decide_eq_false (by omega)
    have d4:decide ((1000:Int)<(m.data.size:Int))=true:=decide_eq_true (by omega)
    exact Y60
   ·have d3:decide (1000<m.data.size)=false:=decide_eq_false hd
    rw [d3]
    clear d3
    go_enter func11,ntmps11
    have d2:decide ((100:Int)<(en:Int)+(hn:Int)+(pn:Int))=false:=decide_eq_false (by omega)
    have d4:decide ((1000:Int)<(m.data.size:Int))=false:=decide_eq_false (by omega)
    exact Y60
theorem Try.infoStr:(prog.info? 9).map (fun i=>(i.zero,i.size,i.bytes))=some (some (.string ⟨#[]⟩),1,16):=by kernel_rfl
theorem Try.infoEnt:(prog.info? 150).map (fun i=>(i.zero,i.size,i.bytes))=some (some (.agg #[.int .i64 0,.string ⟨#[]⟩]),2,24):=by kernel_rfl
theorem grown_set (w:World) (p:Addr) (u:Value):w.grownBy (w.setCell p u) (some p.block):=
 ⟨rfl,rfl,rfl,by simp,fun k _ hne=>Below.heap_setCell w p u k (fun e=>hne (by rw [e]))⟩
def Off (lo:Nat) (row:Option Nat):Nat->Prop:=fun b=>lo<=b/\some b≠row
section
variable {cs:List OpC} {os:List Opd} {g k n size:Nat} {S:Nat->Prop} {c:OpC} {t tO:TypeId} {v v2:Value} {W w w2 w5 wr:World}
theorem own_round (hb:Below W W wr) (hov:OpsV wr (Off W.heap.size v.ownBlock) os cs) (hown:wr.ownsRow W.heap.size tO 9 v k (opsV os)) (box e:Obj) (hg1:((wr.alloc box).alloc e).grownBy w2 (some (wr.heap.size+1))) (g1 c1:Nat) (hge:wr.heap.size+1<=g1) (hrd:Reads w2 w2.heap.size 1 (some ⟨g1,0,none⟩) n (strV c.hs)) (hc:n<=c1/\c1<=maxLen) (u:Value) (i:Nat) (x:Obj) (hg2:((w2.setCell ⟨wr.heap.size,i,none⟩ u).alloc x).grownBy w5 v.ownBlock) (hat:v2.ownBlock=v.ownBlock\/v2.ownBlock=some (w2.heap.size+1)) :
 OpsV w5 (Off W.heap.size v2.ownBlock) (os++[c.at_ (some ⟨g1,0,none⟩) n c1]) (cs++[c])/\Below W W w5:=by
 have s0:=hb.size
 have s1:wr.heap.size+2<=w2:=by have:=hg1.size;simpa using this
 have s2:w2.heap.size+1<=w5:=by have:=hg2.size;simpa using this
 have hk:Kept (Off W.heap.size v.ownBlock) wr w5:=
  ((((((Kept.refl _ wr).alloc box).alloc e).grown hg1 (by intro k hk;injection hk with hk;exact .inr (by omega))).set_ ⟨wr.heap.size,i,none⟩ (.inr (Nat.le_refl _)) u).alloc x).grown hg2 (by intro k hk;exact .inl fun h=>h.2 hk.symm)
 have h1:OpsV w5 (Off W.heap.size v2.ownBlock) os cs:=by
  have h2:OpsV wr (fun b=>Off W.heap.size v.ownBlock b/\Off W.heap.size v2.ownBlock b) os cs:=hov.mono fun b hb1 hb2=>⟨hb2,hb2.1,by
   rcases hat with h|h
   ·rw [h];exact hb2.2
   ·rw [h];intro e;injection e;omega⟩
  exact (h2.kept (hk.mono fun b _ h=>h.1)).mono fun b _ h=>h.2
 have hnew:Rs w5 (Off W.heap.size v2.ownBlock) 1 (some ⟨g1,0,none⟩) n (strV c.hs):=by
  refine⟨hrd.1,fun hn=>?_⟩
  obtain⟨ad,hA,hlt,hcell⟩:=hrd.2 hn
  injection hA with hA
  subst hA
  simp only at hlt
  have hne:some g1≠v.ownBlock:=fun e=>by have:=(hown.lt g1 e.symm).2;omega
  refine⟨_,rfl,⟨by show W.heap.size<=g1;omega,?_⟩,by show g1<_;omega,fun j y hy=>?_⟩
  ·rcases hat with h|h
   ·rw [h];exact hne
   ·rw [h];intro e;injection e with e;simp only at e;omega
  ·have hbl:((⟨g1,0,none⟩:Addr).add j).block=g1:=block_of_add _ _
   rw [World.cell?_of_block (w:=w2) (w':=w5) (by
    rw [hbl,hg2.block g1 (by simp;omega) hne,Below.heap_alloc _ _ g1 (by simp;omega),Below.heap_setCell _ _ _ g1 (by simp;omega)])]
   exact hcell j y hy
 refine⟨h1.snoc ⟨_,_,_,rfl,hnew,hc⟩,?_⟩
 have h1:Below W W w2:=((hb.alloc hb.size _).alloc (by simp;omega) _).grown hg1 (by simp;omega) (by intro k hk;injection hk with hk;omega)
 exact ((h1.setCell (p:=⟨wr.heap.size,i,none⟩) hb.size u).alloc (by have:=h1.size;simpa using this) x).grown hg2 (by have:=h1.size;simp;omega) (by intro k hk;exact (hown.lt k hk).1)
theorem Blk.reads {cs:Array Value} (h:Blk w g t cs) (hs:cs.size=n*size):Reads w w.heap.size size (some ⟨g,0,none⟩) n cs.toList:=by
 refine⟨by simpa using hs,fun _=>⟨_,rfl,h.lt,fun j u hu=>?_⟩⟩
 have e:(⟨g,0,none⟩:Addr).add j=⟨g,j,none⟩:=by
  unfold Addr.add
  by_cases h:j=0
  ·rw [if_pos h,h]
  ·rw [if_neg h];simp
 rw [e,h.cell j,<-hu]
 simp
theorem ownOps_any (A:O) (n cap:Nat) (cs:List OpC) (w:World) (h:OpsIs w S A n cap cs) (hn:n<=4294967296) (hok:∀ c∈cs,c.Ok) :
 Calls prog 34 #[.slice A n cap] w fun e w'=>∃ A' cap',e=.returned (.slice A' n cap')/\OpsIs w' (From w.heap.size) A' n cap' cs/\Below w w w':=by
 have hlen:=h.len
 obtain⟨HR,HL,HO⟩:=J3 h hlen hok
 clear h hlen hok
 obtain⟨i0,hi0,hz0,hz1,hz2⟩:=info_parts Try.infoOp
 obtain⟨HI,HZ0,HZ1,HZ2⟩:=J4 hi0 hz0 hz1 hz2
 obtain⟨j0,hj0,hy0,hy1,hy2⟩:=info_parts Try.infoStr
 obtain⟨HJ,HY0,HY1,HY2⟩:=J4 hj0 hy0 hy1 hy2
 clear hi0 hz0 hz1 hz2 hj0 hy0 hy1 hy2
 go_enter func34,ntmps34
 go_wp2_with fail
 go_loopw [3,4] (fun v i wr=>∃ (k:Nat) (os:List Opd),k<=n/\i=.int .i64 k/\wr.ownsRow w.heap.size 45 9 v k (opsV os)/\OpsV wr (Off w.heap.size v.ownBlock) os (cs.take k)/\Below w w wr) (fun _ i _=>n-(intOf i).toNat)
 case atStart=>exact⟨0,[],by omega,rfl,World.ownsRow_nil _ _ _ _,by simp [OpsV],Below.refl _ _⟩
 case round=>
  obtain⟨k,os,hk,rfl,hown,hov,hb⟩:=hrel
  obtain⟨HB,HV,HW⟩:=J3 hb hov hown
  clear hb hov hown
  rcases Nat.lt_or_ge k n with hk1|hk1
  ·obtain⟨ad,c,hA,hn',hc,rfl,hab,hck,hop,hss⟩:=(HR.out.below HB.out).at_ hk1
   exact Y1
  ·obtain rfl:n=k:=by omega
   obtain⟨A',c',rfl,hc1,hcm,hrd⟩:=own_slice HW.out
   have hrs:Rs wr (From w.heap.size) 9 A' n (opsV os):=Rs.of hrd fun _ ad e=>(HW.out.lt ad.block (by rw [e];rfl)).1
   obtain⟨HC,HRD⟩:=J2 hcm hrs
   have hv:=HV.out
   rw [List.take_of_length_le (by rw [HL.out];exact Nat.le_refl _)] at hv
   have HV2:=J hv
   clear hcm hrd hrs hv
   go_wp2
   go_ret
   exact⟨A',c',rfl,⟨os,HRD.out,HV2.out.mono fun b _ h=>h.1,hc1,HC.out⟩,HB.out⟩
end
def part:List Nat->Code->Code
 | [],c=>c
 | 0::p,.seq a _=>part p a
 | _::p,.seq _ b=>part p b
 | 0::p,.cond _ a _=>part p a
 | _::p,.cond _ _ b=>part p b
 | _::p,.block _ c=>part p c
 | _::p,.loop c=>part p c
 | _::p,.scope c=>part p c
 | _::_,c=>c
def opsOf:Code->List Oper
 | .region _ ops _=>ops.toList
 | _=>[]
def codeOf (f:Func):Code:=f.body.getD .skip
def at_ (t:Array Value) (k:Nat):Value:=t.getD k undef
def Slots (t:Array Value):List (Nat×Value)->Prop
 | []=>True
 | (k,v)::l=>at_ t k=v/\Slots t l
def Fr (n:Nat) (a:Act) (l:List (Nat×Value)):Prop:=a.defers=[]/\a.tmps.size=n/\Slots a.tmps l
theorem eta_ (t:Array Value) {n:Nat} (h:t.size=n):t=((List.range n).map (at_ t)).toArray:=by
 subst h
 apply Array.ext_getElem?
 intro i
 by_cases hi:i<t.size
 ·simp [hi,at_]
 ·simp [Nat.not_lt.1 hi]
section
variable {P:Program} {Q:Z} {a:Act} {w:World}
section
variable {c x y:Code} {id:Nat}
theorem wp_part (h:c=Code.seq x y) (hx:∀ K:Act->World->Prop,(∀ a w,y.wp P Q a w->K a w)->x.wp P (Exit.then K Q) a w):c.wp P Q a w:=by
 subst h
 exact wp_seq_k hx
theorem wp_region_ops (h:c=.region id (opsOf c).toArray false) (hw:wpList P (opsOf c).toArray Q (opsOf c) a w):c.wp P Q a w:=by
 rw [h]
 exact wp_region_lit hw
end
end
def fill (t:Array Value):List (Nat×Value)->Nat->Nat->List Value
 | _,_,0=>[]
 | [],k,m+1=>at_ t k::fill t [] (k+1) m
 | (i,v)::l,k,m+1=>bif i==k then v::fill t l (k+1) m else at_ t k::fill t ((i,v)::l) (k+1) m
section
variable {a:Act} {t:Array Value} {X:Array Value->List Value} {c c':Code} {l:List (Nat×Value)} {n:Nat} {P:Program} {w:World} {Q:Z}
theorem fill_eq (m:Nat):∀ (l:List (Nat×Value)) (k:Nat),Slots t l->fill t l k m=(List.range' k m).map (at_ t):=by
 induction m with
 | zero=>intro l k _;cases l<;>rfl
 | succ m ih=>
  intro l k h
  cases l with
  | nil=>simp [fill,List.range'_succ,ih [] (k+1) trivial]
  | cons x l=>
   obtain⟨i,v⟩:=x
   obtain⟨h1,h2⟩:=h
   by_cases hi:i=k
   . subst hi;simp [fill,List.range'_succ,ih l (i+1) h2,h1]
   . simp [fill,List.range'_succ,ih _ (k+1) (show Slots t ((i,v)::l) from ⟨h1,h2⟩),beq_eq_false_iff_ne.2 hi]
theorem gg (h:Fr n a l) (k:∀ t,c'.wp P Q ⟨(X t).toArray,[]⟩ w) (e:∀ t,fill t l 0 n=X t:=by intro t;simp only [fill,Nat.reduceAdd,Nat.reduceBEq,cond_true,cond_false];exact rfl) (e2:c=c':=by conv=>lhs;whnf):c.wp P Q a w:=by
 obtain⟨t,df⟩:=a
 obtain⟨hd,hs,hl⟩:=h
 simp only at hd hs hl
 subst hd e2
 have:=k t
 rw [← e t,fill_eq n l 0 hl,← List.range_eq_range',← eta_ t hs] at this
 exact this
end
section
variable {P:Program} {Q:Z} {a:Act} {w:World} {f:Func} {p q r:List Nat}
theorem Wt (hx:(part q (codeOf f)).wp P (Exit.then ((part r (codeOf f)).wp P Q) Q) a w) (e0:p++[0]=q:=by simp only [List.cons_append,List.nil_append]<;>exact rfl) (e1:p++[1]=r:=by simp only [List.cons_append,List.nil_append]<;>exact rfl) (h:part p (codeOf f)=.seq (part q (codeOf f)) (part r (codeOf f)):=by kernel_rfl):(part p (codeOf f)).wp P Q a w:=by
 rw [h]
 exact wp_seq hx
theorem Wq (hx:∀ K:Act->World->Prop,(∀ a w,(part r (codeOf f)).wp P Q a w->K a w)->(part q (codeOf f)).wp P (Exit.then K Q) a w) (e0:p++[0]=q:=by simp only [List.cons_append,List.nil_append]<;>exact rfl) (e1:p++[1]=r:=by simp only [List.cons_append,List.nil_append]<;>exact rfl) (h:part p (codeOf f)=.seq (part q (codeOf f)) (part r (codeOf f)):=by kernel_rfl):(part p (codeOf f)).wp P Q a w:=by
 rw [h]
 exact wp_seq_k hx
end
theorem putCells_eq (b:Nat):∀ (l:List Value) (w:World) (i:Nat),w.setCells b i l=putCells w b i l
 | [],_,_=>rfl
 | _::l,_,i=>putCells_eq b l _ (i+1)
section
variable {w W:World} {b:Nat} {t:TypeId} {cs:Array Value}
section
variable {B:Nat}
section
variable (h:Blk w b t cs)
include h
theorem Blk.range:w.rangeAt b 0 cs.toList:=by
 intro j v hv
 rw [Nat.zero_add,h.cell j,<-hv]
 simp
theorem Blk.rangeAt_ (o:Nat) (vs:List Value) (hv:∀ j v,vs[j]? = some v->cs[o+j]? = some v):w.rangeAt b o vs:=by
 intro j v hj
 rw [h.cell (o+j)]
 exact hv j v hj
theorem Blk.there_ (o n:Nat) (hn:o+n<=cs.size):w.there b o n:=by
 intro j hj
 rw [h.cell (o+j)]
 exact⟨by rw [Array.getElem?_eq_getElem (by omega)];rfl,h.frozen _⟩
theorem Blk.setCells_ (vs:List Value) (hs:cs.size=vs.length):Blk (w.setCells b 0 vs) b t vs.toArray:=by
 rw [putCells_eq]
 exact putCells_blk h hs
theorem Blk.setPart (o:Nat) (vs:List Value) (ho:o+vs.length<=cs.size) :
 ∃ cs',Blk (w.setCells b o vs) b t cs'/\cs'.size=cs.size/\(∀ j,j<o->cs'[j]? = cs[j]?)/\(∀ j,j<vs.length->cs'[o+j]? = vs[j]?)/\(∀ j,o+vs.length<=j->cs'[j]? = cs[j]?):=by
 rw [putCells_eq]
 exact putCells_blk' b t vs w o cs h ho
end
theorem below_setCells (hB:B<=b) (h:Below B W w) (o:Nat) (vs:List Value):Below B W (w.setCells b o vs):=by
 rw [putCells_eq]
 exact putCells_below hB vs W w o h
theorem save_setCells (w:World) (b o:Nat) (vs:List Value):Save b w (w.setCells b o vs):=by
 rw [putCells_eq]
 exact putCells_save b vs w o
theorem size_setCells (w:World) (b o:Nat) (vs:List Value):(w.setCells b o vs).heap.size=w.heap.size:=by
 rw [putCells_eq]
 exact putCells_size b vs w o
end
end
section
variable {P:Program} {w:World}
theorem results_cell {fn:Func} {t:Tmp} {ty:TypeId} (h:fn.results=#[.cell t ty]) {tmps:Array Value} {b:Nat} {cs:List Value} {d:TypeDesc} (hp:tmps.getD t undef=.pointer (some ⟨b,0,none⟩)) (hr:w.rangeAt b 0 cs) (hu:P.underlying ty=some d) (hd:d.isRow=true) (hi:(P.info? ty).map (·.size)=some cs.length):(results fn tmps).run P w=.ok (.agg cs.toArray) w:=by
 have hl:=run_loadVar_mid (P:=P) w b 0 ty cs d hr hu hd hi
 rw [Array.getD_eq_getD_getElem?] at hp
 simp [results,h,hp,hl,asAddr]
variable {ops:Array Oper} {rest:List Oper} {o:Oper} {a:Act} {Q:Z}
theorem wpList_value' (hgd:o.guard=none) (v:Value) (W':World) (h:(execOp a.eval o).run P w=.ok (.value v) W') (hk:wpList P ops Q rest (a.put o.dst v) W'):wpList P ops Q (o::rest) a w:=
 wpList_plain hgd fun _ hK=>wp_value' v W' h (hK _ _ hk)
theorem wpList_enter' (hgd:o.guard=none) (f:FuncId) (args:Array Value) (h:(execOp a.eval o).run P w=.ok (.enter f args) w) (hc:Calls P f args w fun e W'=>∃ v,e=.returned v/\wpList P ops Q rest (a.put o.dst v) W'):wpList P ops Q (o::rest) a w:=
 wpList_plain hgd fun _ hK=>wp_enter' f args h (hc.mono fun _ _ ⟨v,he,hw⟩=>⟨v,he,hK _ _ hw⟩)
end
section
variable {l xs:List ByteArray} {B c c' k n n':Nat} {S S':Nat->Prop} {A A':O} {w:World}
theorem str_at (h:Reads w B 1 A n (strV l)) (hk:k<n):∃ ad x,A=some ad/\w.cell? (ad.add k)=some (.string x)/\l[k]? = some x:=by
 obtain⟨ad,u,hA,_,hu,hc⟩:=h.at_ hk
 have hl:k<l.length:=by have:=h.1;simp [strV] at this;omega
 rw [strV_at l k hl] at hu
 injection hu with hu
 exact⟨ad,l[k],hA,by rw [hc,<-hu],List.getElem?_eq_getElem hl⟩
theorem sameHoles_any {xs:List Int} (w:World) (h:IntIs w S A n c xs) (h':IntIs w S' A' n' c' xs) (hn:n<=140737488351232) :
 Calls prog 69 #[.slice A n c,.slice A' n' c'] w fun e w'=>e=.returned (.bool true)/\Below w w w':=by
 obtain rfl:n=n':=by rw [<-h.len,<-h'.len]
 have hlen:=h.len
 have HR:=J h
 have HR':=J h'
 have HL:=J hlen
 clear h h' hlen
 go_enter func69,ntmps69
 go_wp2_with fail
 go_loopw [5] (fun i wr=>∃ k:Nat,k<=n/\i=.int .i64 k/\Below w w wr) (fun i _=>n-(intOf i).toNat)
 case atStart=>exact⟨0,by omega,rfl,Below.refl _ _⟩
 case round=>
  obtain⟨k,hk,rfl,hb⟩:=hrel
  have HB:=J hb
  clear hb
  rcases Nat.lt_or_ge k n with hk1|hk1
  ·obtain⟨ad,hA,c1⟩:=int_at (HR.out.below HB.out).1.reads hk1
   obtain⟨ad',hA',c1'⟩:=int_at (HR'.out.below HB.out).1.reads hk1
   obtain⟨x,hx⟩:∃ x,x=xs.getD k 0:=⟨_,rfl⟩
   rw [<-hx] at c1 c1'
   exact Y55
  ·obtain rfl:n=k:=by omega
   exact Y78
theorem sameStr_any (w:World) (h:StrIs w S A n c xs) (h':StrIs w S' A' n' c' xs) (hn:n<=140737488351232) :
 Calls prog 112 #[.slice A n c,.slice A' n' c'] w fun e w'=>e=.returned (.bool true)/\Below w w w':=by
 obtain rfl:n=n':=by rw [<-h.len,<-h'.len]
 have hlen:=h.len
 have HR:=J h
 have HR':=J h'
 have HL:=J hlen
 clear h h' hlen
 go_enter func112,ntmps112
 go_wp2_with fail
 go_loopw [5] (fun i wr=>∃ k:Nat,k<=n/\i=.int .i64 k/\Below w w wr) (fun i _=>n-(intOf i).toNat)
 case atStart=>exact⟨0,by omega,rfl,Below.refl _ _⟩
 case round=>
  obtain⟨k,hk,rfl,hb⟩:=hrel
  have HB:=J hb
  clear hb
  rcases Nat.lt_or_ge k n with hk1|hk1
  ·obtain⟨ad,x,hA,c1,hx⟩:=str_at (HR.out.below HB.out).1.reads hk1
   obtain⟨ad',x',hA',c1',hx'⟩:=str_at (HR'.out.below HB.out).1.reads hk1
   rw [hx] at hx'
   injection hx' with hx'
   subst hx'
   exact Y55
  ·obtain rfl:n=k:=by omega
   exact Y78
theorem sameSheet_any (z:Int) (w:World) (h:StrIs w S A n c xs) (h':StrIs w S' A' n' c' xs) (hn:n<=140737488351232) :
 Calls prog 103 #[.agg #[z,.slice A n c],.agg #[z,.slice A' n' c']] w fun e w'=>e=.returned (.bool true)/\Below w w w':=by
 have hb:Below w w ((w.alloc (.cells #[z,.slice A n c] 43)).alloc (.cells #[z,.slice A' n' c'] 43)):=((Below.refl _ _).alloc (Nat.le_refl _) _).alloc (by simp) _
 have hs:=sameStr_any _ (h.below hb) (h'.below hb) hn
 obtain⟨HS,HB⟩:=J2 hs hb
 clear h h' hs hb
 go_enter func103,ntmps103
 exact Y51
theorem sameOp_any (o:OpC) (w:World) (h:StrIs w S A n c o.hs) (h':StrIs w S' A' n' c' o.hs) (hn:n<=140737488351232) :
 Calls prog 71 #[.agg #[.int .i64 o.n,o.epoch,o.kind,o.site,o.client,o.seq,.string o.name,o.size,.slice A n c],.agg #[.int .i64 o.n,o.epoch,o.kind,o.site,o.client,o.seq,.string o.name,o.size,.slice A' n' c']] w fun e w'=>e=.returned (.bool true)/\Below w w w':=by
 obtain⟨x1,x2,x3,x4,x5,x6,x7,x8,x9⟩:=o
 simp only at h h' ⊢
 have hb:Below w w ((w.alloc (.cells #[.int .i64 x1,.int .i64 x2,.int .i64 x3,.int .i64 x4,.int .i64 x5,.int .i64 x6,.string x7,.int .i64 x8,.slice A n c] 45)).alloc (.cells #[.int .i64 x1,.int .i64 x2,.int .i64 x3,.int .i64 x4,.int .i64 x5,.int .i64 x6,.string x7,.int .i64 x8,.slice A' n' c'] 45)):=((Below.refl _ _).alloc (Nat.le_refl _) _).alloc (by simp) _
 have hs:=sameSheet_any x8 _ (h.below hb) (h'.below hb) hn
 obtain⟨HS,HB⟩:=J2 hs hb
 clear h h' hs hb
 go_enter func71,ntmps71
 exact Y51
end
section
variable {P:Program} {Q:Z} {a:Act} {w:World} {c x y:Code}
section
variable {t:Bool} {id k:Nat} {o:Operand} {v:Value}
theorem wp_two (h:c=Code.seq x y) (hx:x.wp P (Exit.then (y.wp P Q) Q) a w):c.wp P Q a w:=by
 subst h
 exact wp_seq hx
theorem wp_if (h:c=Code.cond o x y) (hc:a.eval o=.bool t) (hx:t=true->x.wp P Q a w) (hy:t=false->y.wp P Q a w):c.wp P Q a w:=by
 subst h
 cases t with
 | true=>exact wp_cond_true hc (hx rfl)
 | false=>exact wp_cond_false hc (hy rfl)
theorem wp_blk (h:c=Code.block id x) (hx:x.wp P (Exit.inBlock id Q) a w):c.wp P Q a w:=by
 subst h
 exact wp_block hx
theorem wp_nop (h:c=Code.skip) (hq:Q .normal a w):c.wp P Q a w:=by
 subst h
 exact wp_skip hq
theorem eval_at {t:Nat} (h:at_ a.tmps t=v) (hk:k=t):a.eval (.tmp k)=v:=by
 subst hk
 rw [<-h]
 simp [Act.eval,at_]
end
end
section
variable {x5:Bool} {x7:ByteArray} {x0 x1 x10 x11 x12 x13 x14 x2 x3 x4 x9:Int} {y11 y14 y15 y16 y6 y8 z11 z14 z15 z16 z6 z8:Nat} {x15 x16 x6 x8:O} {o:Oper} {a0 a1 a10 a11 a12 a13 a14 a15 a16 a2 a3 a4 a5 a6 a7 a8 a9:Value}
theorem store_mail (p v:Tmp) (hop:o.op=.store 30 (.tmp p) (.tmp v)) (F:Act) (W:World) (b:Nat) (hp:F.eval (.tmp p)=.pointer (some ⟨b,0,none⟩)) (hv:F.eval (.tmp v)=.agg #[x0,x1,x2,x3,x4,x5,.slice x6 y6 z6,.string x7,.slice x8 y8 z8,x9,x10,x11,x12,x13,x14,.slice x15 y15 z15,.slice x16 y16 z16]) (hbk:Blk W b 30 #[a0,a1,a2,a3,a4,a5,a6,a7,a8,a9,a10,a11,a12,a13,a14,a15,a16]) :
 (execOp F.eval o).run prog W=.ok .skip (putCells W b 0 [.int .i64 x0,.int .i64 x1,.int .i64 x2,.int .i64 x3,.int .i64 x4,.bool x5,.slice x6 y6 z6,.string x7,.slice x8 y8 z8,.int .i64 x9,.int .i64 x10,.int .i64 x11,.int .i64 x12,.int .i64 x13,.int .i64 x14,.slice x15 y15 z15,.slice x16 y16 z16]):=by
 have f0:=hbk.frozen 0
 have d0:=hbk.cell 0
 have f1:=hbk.frozen 1
 have d1:=hbk.cell 1
 have f2:=hbk.frozen 2
 have d2:=hbk.cell 2
 have f3:=hbk.frozen 3
 have d3:=hbk.cell 3
 have f4:=hbk.frozen 4
 have d4:=hbk.cell 4
 have f5:=hbk.frozen 5
 have d5:=hbk.cell 5
 have f6:=hbk.frozen 6
 have d6:=hbk.cell 6
 have f7:=hbk.frozen 7
 have d7:=hbk.cell 7
 have f8:=hbk.frozen 8
 have d8:=hbk.cell 8
 have f9:=hbk.frozen 9
 have d9:=hbk.cell 9
 have f10:=hbk.frozen 10
 have d10:=hbk.cell 10
 have f11:=hbk.frozen 11
 have d11:=hbk.cell 11
 have f12:=hbk.frozen 12
 have d12:=hbk.cell 12
 have f13:=hbk.frozen 13
 have d13:=hbk.cell 13
 have f14:=hbk.frozen 14
 have d14:=hbk.cell 14
 have f15:=hbk.frozen 15
 have d15:=hbk.cell 15
 have f16:=hbk.frozen 16
 have d16:=hbk.cell 16
 simp at d0 d1 d2 d3 d4 d5 d6 d7 d8 d9 d10 d11 d12 d13 d14 d15 d16
 exact Y139
theorem store_cmd (p v:Tmp) (hop:o.op=.store 47 (.tmp p) (.tmp v)) (F:Act) (W:World) (b:Nat) {x5 x6 x7 x8 x15:Int} {x9:ByteArray} {x11 x14:O} (hp:F.eval (.tmp p)=.pointer (some ⟨b,0,none⟩)) (hv:F.eval (.tmp v)=.agg #[x0,x1,x2,x3,x4,x5,x6,x7,x8,.string x9,x10,.slice x11 y11 z11,x12,x13,.slice x14 y14 z14,x15]) (hbk:Blk W b 47 #[a0,a1,a2,a3,a4,a5,a6,a7,a8,a9,a10,a11,a12,a13,a14,a15]) :
 (execOp F.eval o).run prog W=.ok .skip (putCells W b 0 [.int .i64 x0,.int .i64 x1,.int .i64 x2,.int .i64 x3,.int .i64 x4,.int .i64 x5,.int .i64 x6,.int .i64 x7,.int .i64 x8,.string x9,.int .i64 x10,.slice x11 y11 z11,.int .i64 x12,.int .i64 x13,.slice x14 y14 z14,.int .i64 x15]):=by
 have f0:=hbk.frozen 0
 have d0:=hbk.cell 0
 have f1:=hbk.frozen 1
 have d1:=hbk.cell 1
 have f2:=hbk.frozen 2
 have d2:=hbk.cell 2
 have f3:=hbk.frozen 3
 have d3:=hbk.cell 3
 have f4:=hbk.frozen 4
 have d4:=hbk.cell 4
 have f5:=hbk.frozen 5
 have d5:=hbk.cell 5
 have f6:=hbk.frozen 6
 have d6:=hbk.cell 6
 have f7:=hbk.frozen 7
 have d7:=hbk.cell 7
 have f8:=hbk.frozen 8
 have d8:=hbk.cell 8
 have f9:=hbk.frozen 9
 have d9:=hbk.cell 9
 have f10:=hbk.frozen 10
 have d10:=hbk.cell 10
 have f11:=hbk.frozen 11
 have d11:=hbk.cell 11
 have f12:=hbk.frozen 12
 have d12:=hbk.cell 12
 have f13:=hbk.frozen 13
 have d13:=hbk.cell 13
 have f14:=hbk.frozen 14
 have d14:=hbk.cell 14
 have f15:=hbk.frozen 15
 have d15:=hbk.cell 15
 simp at d0 d1 d2 d3 d4 d5 d6 d7 d8 d9 d10 d11 d12 d13 d14 d15
 exact Y139
end
theorem meet_results {T:Array Value} {W:World} {b6 b7:Nat} {n x0 x1 x2 x3 x4 x9 x10 x11 x12 x13 x14:Int} {x5:Bool} {x7:ByteArray} {x6 x8 x15 x16:O} {x6n x6c x8n x8c x15n x15c x16n x16c:Nat} {y0 y1 y2 y3 y4 y5 y6 y7 y8 y10 y12 y13 y15:Int} {y9:ByteArray} {y11 y14:O} {y11n y11c y14n y14c:Nat} (h6:T[6]?.getD undef=.pointer (some ⟨b6,0,none⟩)) (h7:T[7]?.getD undef=.pointer (some ⟨b7,0,none⟩)) (h8:T[8]?.getD undef=.int .i64 n) (hm:Blk W b6 30 #[x0,x1,x2,x3,x4,x5,.slice x6 x6n x6c,.string x7,.slice x8 x8n x8c,x9,x10,x11,x12,x13,x14,.slice x15 x15n x15c,.slice x16 x16n x16c]) (hc:Blk W b7 47 #[y0,y1,y2,y3,y4,y5,y6,y7,y8,.string y9,y10,.slice y11 y11n y11c,y12,y13,.slice y14 y14n y14c,y15]) :
 (results Try.f16 T).run prog W=.ok (.tuple #[.agg #[x0,x1,x2,x3,x4,x5,.slice x6 x6n x6c,.string x7,.slice x8 x8n x8c,x9,x10,x11,x12,x13,x14,.slice x15 x15n x15c,.slice x16 x16n x16c],.agg #[y0,y1,y2,y3,y4,y5,y6,y7,y8,.string y9,y10,.slice y11 y11n y11c,y12,y13,.slice y14 y14n y14c,y15],.int .i64 n]) W:=by
 obtain⟨d0,d1,d2,d3,d4,d5,d6,d7,d8,d9,d10,d11,d12,d13,d14,d15,d16⟩:=hm.cs 0 17
 obtain⟨k0,k1,k2,k3,k4,k5,k6,k7,k8,k9,k10,k11,k12,k13,k14,k15⟩:=hc.cs 0 16
 clear hm hc
 simp [results,results16,h6,h7,h8,d0,d1,d2,d3,d4,d5,d6,d7,d8,d9,d10,d11,d12,d13,d14,d15,d16,k0,k1,k2,k3,k4,k5,k6,k7,k8,k9,k10,k11,k12,k13,k14,k15,go_sem]
end Go.Proofs.Ytaipgdhdfpemcaa
