/- THE WALKS OF THE LANE, part 9. -/
import Derived.Test.YtaipgdhdfpemcaaF7
namespace Go.Proofs.Ytaipgdhdfpemcaa
set_option linter.all false
open Go.RowKit Go.Proofs.Try
set_option maxRecDepth 100000
set_option maxHeartbeats 4000000
theorem Try.infoStr:(prog.info? 9).map (fun i=>(i.zero,i.size,i.bytes))=some (some (.string ⟨#[]⟩),1,16):=by kernel_rfl
theorem Try.infoEnt:(prog.info? 150).map (fun i=>(i.zero,i.size,i.bytes))=some (some (.agg #[.int .i64 0,.string ⟨#[]⟩]),2,24):=by kernel_rfl
theorem grown_set (w:World) (p:Addr) (u:Value):w.grownBy (w.setCell p u) (some p.block):=
 ⟨rfl,rfl,rfl,by simp,fun k _ hne=>Below.heap_setCell w p u k (fun e=>hne (by rw [e]))⟩
def Off (lo:Nat) (row:Option Nat):Nat->Prop:=fun b=>lo<=b/\some b≠row
section
variable {cs:List OpC} {os:List Opd} {g k n size:Nat} {S:Nat->Prop} {c:OpC} {t tO:TypeId} {v v2:Value} {W w w2 w5 wr:World}
theorem own_round (hb:Below W W wr) (hov:OpsV wr (Off W.heap.size v.ownBlock) os cs) (hown:wr.ownsRow W.heap.size tO 9 v k (opsV os)) (box e:Obj) (hg1:((wr.alloc box).alloc e).grownBy w2 (some (wr.heap.size+1))) (g1 c1:Nat) (hge:wr.heap.size+1<=g1) (hrd:Reads w2 w2.heap.size 1 (some ⟨g1,0,none⟩) n (strV c.hs)) (hc:n<=c1/\c1<=maxLen) (u:Value) (i:Nat) (x:Obj) (hg2:((w2.setCell ⟨wr.heap.size,i,none⟩ u).alloc x).grownBy w5 v.ownBlock) (hat:v2.ownBlock=v.ownBlock\/v2.ownBlock=some (w2.heap.size+1)) :
 OpsV w5 (Off W.heap.size v2.ownBlock) (os++[c.at_ (some ⟨g1,0,none⟩) n c1]) (cs++[c])/\Below W W w5:=by
 have s0:=hb.size
 have s1:wr.heap.size+2<=w2:=by have:=hg1.size;simpa using this
 have s2:w2.heap.size+1<=w5:=by have:=hg2.size;simpa using this
 have hk:Kept (Off W.heap.size v.ownBlock) wr w5:=
  ((((((Kept.refl _ wr).alloc box).alloc e).grown hg1 (by intro k hk;injection hk with hk;exact .inr (by omega))).set_ ⟨wr.heap.size,i,none⟩ (.inr (Nat.le_refl _)) u).alloc x).grown hg2 (by intro k hk;exact .inl fun h=>h.2 hk.symm)
 have h1:OpsV w5 (Off W.heap.size v2.ownBlock) os cs:=by
  have h2:OpsV wr (fun b=>Off W.heap.size v.ownBlock b/\Off W.heap.size v2.ownBlock b) os cs:=hov.mono fun b hb1 hb2=>⟨hb2,hb2.1,by
   rcases hat with h|h
   ·rw [h];exact hb2.2
   ·rw [h];intro e;injection e;omega⟩
  exact (h2.kept (hk.mono fun b _ h=>h.1)).mono fun b _ h=>h.2
 have hnew:Rs w5 (Off W.heap.size v2.ownBlock) 1 (some ⟨g1,0,none⟩) n (strV c.hs):=by
  refine⟨hrd.1,fun hn=>?_⟩
  obtain⟨ad,hA,hlt,hcell⟩:=hrd.2 hn
  injection hA with hA
  subst hA
  simp only at hlt
  have hne:some g1≠v.ownBlock:=fun e=>by have:=(hown.lt g1 e.symm).2;omega
  refine⟨_,rfl,⟨by show W.heap.size<=g1;omega,?_⟩,by show g1<_;omega,fun j y hy=>?_⟩
  ·rcases hat with h|h
   ·rw [h];exact hne
   ·rw [h];intro e;injection e with e;simp only at e;omega
  ·have hbl:((⟨g1,0,none⟩:Addr).add j).block=g1:=block_of_add _ _
   rw [World.cell?_of_block (w:=w2) (w':=w5) (by
    rw [hbl,hg2.block g1 (by simp;omega) hne,Below.heap_alloc _ _ g1 (by simp;omega),Below.heap_setCell _ _ _ g1 (by simp;omega)])]
   exact hcell j y hy
 refine⟨h1.snoc ⟨_,_,_,rfl,hnew,hc⟩,?_⟩
 have h1:Below W W w2:=((hb.alloc hb.size _).alloc (by simp;omega) _).grown hg1 (by simp;omega) (by intro k hk;injection hk with hk;omega)
 exact ((h1.setCell (p:=⟨wr.heap.size,i,none⟩) hb.size u).alloc (by have:=h1.size;simpa using this) x).grown hg2 (by have:=h1.size;simp;omega) (by intro k hk;exact (hown.lt k hk).1)
theorem Blk.reads {cs:Array Value} (h:Blk w g t cs) (hs:cs.size=n*size):Reads w w.heap.size size (some ⟨g,0,none⟩) n cs.toList:=by
 refine⟨by simpa using hs,fun _=>⟨_,rfl,h.lt,fun j u hu=>?_⟩⟩
 have e:(⟨g,0,none⟩:Addr).add j=⟨g,j,none⟩:=by
  unfold Addr.add
  by_cases h:j=0
  ·rw [if_pos h,h]
  ·rw [if_neg h];simp
 rw [e,h.cell j,<-hu]
 simp
theorem ownOps_any (A:O) (n cap:Nat) (cs:List OpC) (w:World) (h:OpsIs w S A n cap cs) (hn:n<=4294967296) (hok:∀ c∈cs,c.Ok) :
 Calls prog 34 #[.slice A n cap] w fun e w'=>∃ A' cap',e=.returned (.slice A' n cap')/\OpsIs w' (From w.heap.size) A' n cap' cs/\Below w w w':=by
 have hlen:=h.len
 obtain⟨HR,HL,HO⟩:=J3 h hlen hok
 clear h hlen hok
 obtain⟨i0,hi0,hz0,hz1,hz2⟩:=info_parts Try.infoOp
 obtain⟨HI,HZ0,HZ1,HZ2⟩:=J4 hi0 hz0 hz1 hz2
 obtain⟨j0,hj0,hy0,hy1,hy2⟩:=info_parts Try.infoStr
 obtain⟨HJ,HY0,HY1,HY2⟩:=J4 hj0 hy0 hy1 hy2
 clear hi0 hz0 hz1 hz2 hj0 hy0 hy1 hy2
 go_enter func34,ntmps34
 go_wp2_with fail
 go_loopw [3,4] (fun v i wr=>∃ (k:Nat) (os:List Opd),k<=n/\i=.int .i64 k/\wr.ownsRow w.heap.size 45 9 v k (opsV os)/\OpsV wr (Off w.heap.size v.ownBlock) os (cs.take k)/\Below w w wr) (fun _ i _=>n-(intOf i).toNat)
 case atStart=>exact⟨0,[],by omega,rfl,World.ownsRow_nil _ _ _ _,by simp [OpsV],Below.refl _ _⟩
 case round=>
  obtain⟨k,os,hk,rfl,hown,hov,hb⟩:=hrel
  obtain⟨HB,HV,HW⟩:=J3 hb hov hown
  clear hb hov hown
  rcases Nat.lt_or_ge k n with hk1|hk1
  ·obtain⟨ad,c,hA,hn',hc,rfl,hab,hck,hop,hss⟩:=(HR.out.below HB.out).at_ hk1
   have hl:=hss.len
   have ho:=HO.out c (List.mem_of_getElem? hck)
   have hz2:hn'*16<=140737488351232:=by have:=ho.hs;omega
   have htk:cs.take (k+1)=cs.take k++[c]:=by rw [List.take_add_one,hck];rfl
   have HTK:=J htk
   obtain⟨k0,k1,k2,k3,k4,k5,k6,k7,k8⟩:=hop
   simp only [OpC.at_] at k0 k1 k2 k3 k4 k5 k6 k7 k8
   obtain⟨x1,x2,x3,x4,x5,x6,x7,x8,x9⟩:=c
   simp only at k0 k1 k2 k3 k4 k5 k6 k7 k8 hss
   have HS:=J hss
   clear hck hss hl ho htk
   have hbx:Blk (wr.alloc (.cells #[.int .i64 x1,.int .i64 x2,.int .i64 x3,.int .i64 x4,.int .i64 x5,.int .i64 x6,.string x7,.int .i64 x8,.slice hA hn' hc] 45)) wr.heap.size 45 #[.int .i64 x1,.int .i64 x2,.int .i64 x3,.int .i64 x4,.int .i64 x5,.int .i64 x6,.string x7,.int .i64 x8,.slice hA hn' hc]:=Blk.new _ _ _
   have HBX:=J hbx
   have hb0:Below wr wr (wr.alloc (.cells #[.int .i64 x1,.int .i64 x2,.int .i64 x3,.int .i64 x4,.int .i64 x5,.int .i64 x6,.string x7,.int .i64 x8,.slice hA hn' hc] 45)):=(Below.refl _ _).alloc (Nat.le_refl _) _
   have HB0:=J hb0
   clear hbx hb0
   obtain⟨W1,hW1⟩:∃ W1,W1=wr.alloc (.cells #[.int .i64 x1,.int .i64 x2,.int .i64 x3,.int .i64 x4,.int .i64 x5,.int .i64 x6,.string x7,.int .i64 x8,.slice hA hn' hc] 45):=⟨_,rfl⟩
   have hsz:W1.heap.size=wr.heap.size+1:=by rw [hW1];simp
   have hem:=own_empty (wr.alloc (.cells #[.int .i64 x1,.int .i64 x2,.int .i64 x3,.int .i64 x4,.int .i64 x5,.int .i64 x6,.string x7,.int .i64 x8,.slice hA hn' hc] 45)) 9 1
   have es:(wr.alloc (.cells #[.int .i64 x1,.int .i64 x2,.int .i64 x3,.int .i64 x4,.int .i64 x5,.int .i64 x6,.string x7,.int .i64 x8,.slice hA hn' hc] 45)).heap.size=wr.heap.size+1:=by simp
   rw [es] at hem
   have HEM:=J hem
   clear hem es hW1 hsz W1
   go_wp2_with (at_builtin;refine wpList_append_any _ rfl (.tmp 16) (.tmp 19) _ rfl (wr.heap.size+1) 9 j0 _ 1 16 underlying24 HJ.out HY0.out HY1.out HY2.out rfl (by omega) (.slice (some ⟨wr.heap.size+1,0,none⟩) 0 0) 0 [] rfl HEM.out wr.heap.size hA hn' hc (strV x9) rfl (((HS.out.1.reads.below HB0.out)).alloc (by simp) _) (strV_one x9) ?c1 ?c2 ?c3 ?_)
   case c1=>unfold maxLen;omega
   case c2=>omega
   case c3=>simp
   intro v1 w2 hown1 hg1 hat1
   try simp only [Nat.zero_add,List.nil_append] at hown1
   obtain⟨g1,c1,cur1,rfl,hc1,hcm1,hge1,_,hrd1⟩:=own_blk hown1 hat1
   have hbk2:=(HBX.out.alloc (.cells #[] 9)).grown hg1 (by simp [Value.ownBlock])
   have d0:=hbk2.cell 0
   have d1:=hbk2.cell 1
   have d2:=hbk2.cell 2
   have d3:=hbk2.cell 3
   have d4:=hbk2.cell 4
   have d5:=hbk2.cell 5
   have d6:=hbk2.cell 6
   have d7:=hbk2.cell 7
   have d8:=hbk2.cell 8
   have f8:=hbk2.frozen 8
   simp at d0 d1 d2 d3 d4 d5 d6 d7 d8
   obtain⟨HG1,HRD1⟩:=J2 hg1 hrd1
   have hs2:wr.heap.size+2<=w2:=by have:=hg1.size;simpa using this
   have hown2:w2.ownsRow w.heap.size 45 9 u3 k (opsV os):=((HW.out.alloc _).alloc _).kept hg1 (by
    rcases hv:u3.ownBlock with _|b
    ·exact .inl rfl
    ·refine .inr fun e=>?_
     have:=(HW.out.lt b hv).2
     simp [Value.ownBlock] at e
     omega)
   have hown3:=hown2.kept (grown_set w2 ⟨wr.heap.size,8,none⟩ (.slice (some ⟨g1,0,none⟩) hn' c1)) (by
    rcases hv:u3.ownBlock with _|b
    ·exact .inl rfl
    ·refine .inr fun e=>?_
     have:=(HW.out.lt b hv).2
     simp at e
     omega)
   have HW3:=J hown3
   have hnb:Blk ((w2.setCell ⟨wr.heap.size,8,none⟩ (.slice (some ⟨g1,0,none⟩) hn' c1)).alloc (.cells #[.int .i64 x1,.int .i64 x2,.int .i64 x3,.int .i64 x4,.int .i64 x5,.int .i64 x6,.string x7,.int .i64 x8,.slice (some ⟨g1,0,none⟩) hn' c1] 45)) w2.heap.size 45 #[.int .i64 x1,.int .i64 x2,.int .i64 x3,.int .i64 x4,.int .i64 x5,.int .i64 x6,.string x7,.int .i64 x8,.slice (some ⟨g1,0,none⟩) hn' c1]:=by
    have:=Blk.new (w2.setCell ⟨wr.heap.size,8,none⟩ (.slice (some ⟨g1,0,none⟩) hn' c1)) 45 #[.int .i64 x1,.int .i64 x2,.int .i64 x3,.int .i64 x4,.int .i64 x5,.int .i64 x6,.string x7,.int .i64 x8,.slice (some ⟨g1,0,none⟩) hn' c1]
    rwa [setCell_size] at this
   have HNB:=J hnb
   clear hown1 hg1 hat1 hrd1 hbk2 hown2 hown3 hnb
   go_wp2_with (at_builtin;refine wpList_append_any _ rfl (.tmp 23) (.tmp 25) _ rfl w.heap.size 45 i0 _ 9 96 underlying28 HI.out HZ0.out HZ1.out HZ2.out rfl (by omega) u3 k (opsV os) rfl (HW3.out.alloc _) _ (some ⟨w2.heap.size,0,none⟩) 1 1 (opsV [OpC.at_ ⟨x1,x2,x3,x4,x5,x6,x7,x8,x9⟩ (some ⟨g1,0,none⟩) hn' c1]) rfl (HNB.out.reads (n:=1) (size:=9) rfl) (opsV_one _) ?d1 ?d2 ?d3 ?_)
   case d1=>unfold maxLen;omega
   case d2=>omega
   case d3=>have:=HB.out.size;simp;omega
   intro v2 w5 hown5 hg5 hat5
   have hat6:v2.ownBlock=u3.ownBlock\/v2.ownBlock=some (w2.heap.size+1):=by simpa using hat5
   obtain⟨e1,e3⟩:=own_round (c:=⟨x1,x2,x3,x4,x5,x6,x7,x8,x9⟩) HB.out HV.out HW.out _ _ HG1.out g1 c1 hge1 HRD1.out ⟨hc1,hcm1⟩ _ _ _ hg5 hat6
   obtain⟨E1,E3,E4⟩:=J3 e1 e3 hown5
   clear e1 e3 hown5 hg5 hat5 hat6
   go_wp2
   go_roundw
   case rel=>exact⟨k+1,os++[OpC.at_ ⟨x1,x2,x3,x4,x5,x6,x7,x8,x9⟩ (some ⟨g1,0,none⟩) hn' c1],by omega,by go_num,by rw [opsV_append];exact E4.out,by rw [HTK.out];exact E1.out,E3.out⟩
   case measure=>simp [intOf];omega
  ·obtain rfl:n=k:=by omega
   obtain⟨A',c',rfl,hc1,hcm,hrd⟩:=own_slice HW.out
   have hrs:Rs wr (From w.heap.size) 9 A' n (opsV os):=Rs.of hrd fun _ ad e=>(HW.out.lt ad.block (by rw [e];rfl)).1
   obtain⟨HC,HRD⟩:=J2 hcm hrs
   have hv:=HV.out
   rw [List.take_of_length_le (by rw [HL.out];exact Nat.le_refl _)] at hv
   have HV2:=J hv
   clear hcm hrd hrs hv
   go_wp2
   go_ret
   exact⟨A',c',rfl,⟨os,HRD.out,HV2.out.mono fun b _ h=>h.1,hc1,HC.out⟩,HB.out⟩
end
section
variable {l xs:List ByteArray} {B c c' k n n':Nat} {S S':Nat->Prop} {A A':O} {w:World}
theorem str_at (h:Reads w B 1 A n (strV l)) (hk:k<n):∃ ad x,A=some ad/\w.cell? (ad.add k)=some (.string x)/\l[k]? = some x:=by
 obtain⟨ad,u,hA,_,hu,hc⟩:=h.at_ hk
 have hl:k<l.length:=by have:=h.1;simp [strV] at this;omega
 rw [strV_at l k hl] at hu
 injection hu with hu
 exact⟨ad,l[k],hA,by rw [hc,<-hu],List.getElem?_eq_getElem hl⟩
theorem entV_at (es:List (Int×ByteArray)) (k:Nat) (e:Int×ByteArray) (h:es[k]? = some e):(entV es)[2*k]? = some (.int .i64 e.1)/\(entV es)[2*k+1]? = some (.string e.2):=by
 induction es generalizing k with
 | nil=>simp at h
 | cons a l ih=>
  have e1:entV (a::l)=[.int .i64 a.1,.string a.2]++entV l:=rfl
  rw [e1]
  rcases k with _|k
  ·simp only [List.getElem?_cons_zero,Option.some.injEq] at h
   subst h
   exact⟨rfl,rfl⟩
  ·rw [show 2*(k+1)=2*k+2 by omega,show 2*k+2+1=(2*k+1)+2 by omega]
   exact ih k (by simpa using h)
theorem ent_at {l:List (Int×ByteArray)} (h:Reads w B 2 A n (entV l)) (hk:k<n) :
 ∃ ad x y,A=some ad/\w.cell? (ad.add (k*2))=some (.int .i64 x)/\w.cell? {block:=(ad.add (k*2)).block,off:=(ad.add (k*2)).off+1,spot:=none}=some (.string y)/\l[k]? = some (x,y):=by
 obtain⟨ad,e,_,hc⟩:=h.2 (by omega)
 have hl:k<l.length:=by have:=h.1;rw [entV_len] at this;omega
 obtain⟨h1,h2⟩:=entV_at l k l[k] (List.getElem?_eq_getElem hl)
 have c1:=hc _ _ h1
 have c2:=hc _ _ h2
 rw [Nat.mul_comm] at c1
 rw [Nat.mul_comm,<-add_of_add,add_pos _ _ (by omega)] at c2
 exact⟨ad,l[k].1,l[k].2,e,c1,c2,List.getElem?_eq_getElem hl⟩
theorem sameHoles_any {xs:List Int} (w:World) (h:IntIs w S A n c xs) (h':IntIs w S' A' n' c' xs) (hn:n<=140737488351232) :
 Calls prog 69 #[.slice A n c,.slice A' n' c'] w fun e w'=>e=.returned (.bool true)/\Below w w w':=by
 obtain rfl:n=n':=by rw [<-h.len,<-h'.len]
 have hlen:=h.len
 have HR:=J h
 have HR':=J h'
 have HL:=J hlen
 clear h h' hlen
 go_enter func69,ntmps69
 go_wp2_with fail
 go_loopw [5] (fun i wr=>∃ k:Nat,k<=n/\i=.int .i64 k/\Below w w wr) (fun i _=>n-(intOf i).toNat)
 case atStart=>exact⟨0,by omega,rfl,Below.refl _ _⟩
 case round=>
  obtain⟨k,hk,rfl,hb⟩:=hrel
  have HB:=J hb
  clear hb
  rcases Nat.lt_or_ge k n with hk1|hk1
  ·obtain⟨ad,hA,c1⟩:=int_at (HR.out.below HB.out).1.reads hk1
   obtain⟨ad',hA',c1'⟩:=int_at (HR'.out.below HB.out).1.reads hk1
   obtain⟨x,hx⟩:∃ x,x=xs.getD k 0:=⟨_,rfl⟩
   rw [<-hx] at c1 c1'
   exact Y34
  ·obtain rfl:n=k:=by omega
   exact Y91
theorem sameStr_any (w:World) (h:StrIs w S A n c xs) (h':StrIs w S' A' n' c' xs) (hn:n<=140737488351232) :
 Calls prog 112 #[.slice A n c,.slice A' n' c'] w fun e w'=>e=.returned (.bool true)/\Below w w w':=by
 obtain rfl:n=n':=by rw [<-h.len,<-h'.len]
 have hlen:=h.len
 have HR:=J h
 have HR':=J h'
 have HL:=J hlen
 clear h h' hlen
 go_enter func112,ntmps112
 go_wp2_with fail
 go_loopw [5] (fun i wr=>∃ k:Nat,k<=n/\i=.int .i64 k/\Below w w wr) (fun i _=>n-(intOf i).toNat)
 case atStart=>exact⟨0,by omega,rfl,Below.refl _ _⟩
 case round=>
  obtain⟨k,hk,rfl,hb⟩:=hrel
  have HB:=J hb
  clear hb
  rcases Nat.lt_or_ge k n with hk1|hk1
  ·obtain⟨ad,x,hA,c1,hx⟩:=str_at (HR.out.below HB.out).1.reads hk1
   obtain⟨ad',x',hA',c1',hx'⟩:=str_at (HR'.out.below HB.out).1.reads hk1
   rw [hx] at hx'
   injection hx' with hx'
   subst hx'
   exact Y34
  ·obtain rfl:n=k:=by omega
   exact Y91
theorem sameEnt_any {xs:List (Int×ByteArray)} (w:World) (h:EntIs w S A n c xs) (h':EntIs w S' A' n' c' xs) (hn:n<=140737488351232) :
 Calls prog 70 #[.slice A n c,.slice A' n' c'] w fun e w'=>e=.returned (.bool true)/\Below w w w':=by
 obtain rfl:n=n':=by rw [<-h.len,<-h'.len]
 have hlen:=h.len
 have HR:=J h
 have HR':=J h'
 have HL:=J hlen
 clear h h' hlen
 go_enter func70,ntmps70
 go_wp2_with fail
 go_loopw [5] (fun i wr=>∃ k:Nat,k<=n/\i=.int .i64 k/\Below w w wr) (fun i _=>n-(intOf i).toNat)
 case atStart=>exact⟨0,by omega,rfl,Below.refl _ _⟩
 case round=>
  obtain⟨k,hk,rfl,hb⟩:=hrel
  have HB:=J hb
  clear hb
  rcases Nat.lt_or_ge k n with hk1|hk1
  ·obtain⟨ad,x,y,hA,c1,c2,hx⟩:=ent_at (HR.out.below HB.out).1.reads hk1
   obtain⟨ad',x',y',hA',c1',c2',hx'⟩:=ent_at (HR'.out.below HB.out).1.reads hk1
   rw [hx] at hx'
   injection hx' with hx'
   injection hx' with hx1 hx2
   subst hx1 hx2
   exact Y34
  ·obtain rfl:n=k:=by omega
   exact Y91
theorem sameSheet_any (z:Int) (w:World) (h:StrIs w S A n c xs) (h':StrIs w S' A' n' c' xs) (hn:n<=140737488351232) :
 Calls prog 103 #[.agg #[z,.slice A n c],.agg #[z,.slice A' n' c']] w fun e w'=>e=.returned (.bool true)/\Below w w w':=by
 have hb:Below w w ((w.alloc (.cells #[z,.slice A n c] 43)).alloc (.cells #[z,.slice A' n' c'] 43)):=((Below.refl _ _).alloc (Nat.le_refl _) _).alloc (by simp) _
 have hs:=sameStr_any _ (h.below hb) (h'.below hb) hn
 obtain⟨HS,HB⟩:=J2 hs hb
 clear h h' hs hb
 go_enter func103,ntmps103
 exact Y129
theorem sameOp_any (o:OpC) (w:World) (h:StrIs w S A n c o.hs) (h':StrIs w S' A' n' c' o.hs) (hn:n<=140737488351232) :
 Calls prog 71 #[.agg #[.int .i64 o.n,o.epoch,o.kind,o.site,o.client,o.seq,.string o.name,o.size,.slice A n c],.agg #[.int .i64 o.n,o.epoch,o.kind,o.site,o.client,o.seq,.string o.name,o.size,.slice A' n' c']] w fun e w'=>e=.returned (.bool true)/\Below w w w':=by
 obtain⟨x1,x2,x3,x4,x5,x6,x7,x8,x9⟩:=o
 simp only at h h' ⊢
 have hb:Below w w ((w.alloc (.cells #[.int .i64 x1,.int .i64 x2,.int .i64 x3,.int .i64 x4,.int .i64 x5,.int .i64 x6,.string x7,.int .i64 x8,.slice A n c] 45)).alloc (.cells #[.int .i64 x1,.int .i64 x2,.int .i64 x3,.int .i64 x4,.int .i64 x5,.int .i64 x6,.string x7,.int .i64 x8,.slice A' n' c'] 45)):=((Below.refl _ _).alloc (Nat.le_refl _) _).alloc (by simp) _
 have hs:=sameSheet_any x8 _ (h.below hb) (h'.below hb) hn
 obtain⟨HS,HB⟩:=J2 hs hb
 clear h h' hs hb
 go_enter func71,ntmps71
 exact Y129
end
def SopV (ad ad':Addr) (n c c' k:Nat) (o o':Array Value):Nat->Value->World->Prop
 | 0,v,_=>v=.slice (some ad) n c
 | 1,v,_=>v=.int .i64 k
 | 2,v,_=>v=.pointer (some (ad.add (k*9)))
 | 3,v,_=>v=.agg o
 | 4,v,_=>v=.slice (some ad') n c'
 | 5,v,_=>v=.int .i64 k
 | 6,v,_=>v=.pointer (some (ad'.add (k*9)))
 | 7,v,_=>v=.agg o'
 | 8,v,_=>v=.bool true
 | 9,v,_=>v=.bool false
 | _,_,_=>True
theorem sameOps_any {A A':O} {n n' c c':Nat} {xs:List OpC} {S S':Nat->Prop} (w:World) (h:OpsIs w S A n c xs) (h':OpsIs w S' A' n' c' xs) (hn:n<=140737488351232) (hok:∀ o∈xs,o.hs.length<=140737488351232) :
 Calls prog 21 #[.slice A n c,.slice A' n' c'] w fun e w'=>e=.returned (.bool true)/\Below w w w':=by
 obtain rfl:n=n':=by rw [<-h.len,<-h'.len]
 have HR:=J h
 have HR':=J h'
 have HO:=J hok
 clear h h' hok
 go_enter func21,ntmps21
 go_wp2_with fail
 go_loopw [5] (fun i wr=>∃ k:Nat,k<=n/\i=.int .i64 k/\Below w w wr) (fun i _=>n-(intOf i).toNat)
 case atStart=>exact⟨0,by omega,rfl,Below.refl _ _⟩
 case round=>
  obtain⟨k,hk,rfl,hb⟩:=hrel
  have HB:=J hb
  clear hb
  rcases Nat.lt_or_ge k n with hk1|hk1
  ·obtain⟨ad,o,hA,hn1,hc1,rfl,hab,hck,hop,hss⟩:=(HR.out.below HB.out).at_ hk1
   obtain⟨ad',o',hA',hn',hc',rfl,hab',hck',hop',hss'⟩:=(HR'.out.below HB.out).at_ hk1
   rw [hck] at hck'
   injection hck' with hck'
   subst hck'
   have hz:hn1<=140737488351232:=by rw [<-hss.len];exact HO.out o (List.mem_of_getElem? hck)
   obtain⟨x1,x2,x3,x4,x5,x6,x7,x8,x9⟩:=o
   simp only [OpC.at_] at hop hop' hss hss'
   have HP:=J hop
   have HP':=J hop'
   have HS:=J hss
   have HS':=J hss'
   have HAB:=J hab
   have HAB':=J hab'
   clear hck hop hop' hss hss' hab hab'
   have b1:(0:Int)<=(k:Int):=by omega
   have b2:(k:Int)<(n:Int):=by omega
   go_wp2_with fail
   refine wp_region_yields kr (SopV ad ad' n c c' k #[.int .i64 x1,.int .i64 x2,.int .i64 x3,.int .i64 x4,.int .i64 x5,.int .i64 x6,.string x7,.int .i64 x8,.slice hA hn1 hc1] #[.int .i64 x1,.int .i64 x2,.int .i64 x3,.int .i64 x4,.int .i64 x5,.int .i64 x6,.string x7,.int .i64 x8,.slice hA' hn' hc']) (fun W=>Below wr wr W) (fun W W'=>Below W W W') kr ?hG ?hmono ?hstep ?hend
   case hG=>exact (Below.refl _ _).drew
   case hmono=>
    intro i v W W' _ hv
    match i with
    | 0|1|2|3|4|5|6|7|8|9=>exact hv
    | i+10=>exact hv
   case hstep=>
    intro i o F U W ho hGW hat hoff hp
    have hrefl:=fun W:World=>Below.refl W.heap.size W
    match i with
    | 0=>cases ho;exact wp_move' (.tmp 0) rfl ⟨_,rfl,(hoff 0 kd).trans rfl,hGW,hrefl W⟩
    | 1=>cases ho;exact wp_move' (.tmp 5) rfl ⟨_,rfl,(hoff 5 kd).trans rfl,hGW,hrefl W⟩
    | 2=>
     cases ho
     have hv0:SopV ad ad' n c c' k #[.int .i64 x1,.int .i64 x2,.int .i64 x3,.int .i64 x4,.int .i64 x5,.int .i64 x6,.string x7,.int .i64 x8,.slice hA hn1 hc1] #[.int .i64 x1,.int .i64 x2,.int .i64 x3,.int .i64 x4,.int .i64 x5,.int .i64 x6,.string x7,.int .i64 x8,.slice hA' hn' hc'] 0 (U 0) W:=hp ⟨0,.data⟩ (by simp) rfl
     have ht0:=act_tmp (hat 0 17 kd rfl)
     have hv1:SopV ad ad' n c c' k #[.int .i64 x1,.int .i64 x2,.int .i64 x3,.int .i64 x4,.int .i64 x5,.int .i64 x6,.string x7,.int .i64 x8,.slice hA hn1 hc1] #[.int .i64 x1,.int .i64 x2,.int .i64 x3,.int .i64 x4,.int .i64 x5,.int .i64 x6,.string x7,.int .i64 x8,.slice hA' hn' hc'] 1 (U 1) W:=hp ⟨1,.data⟩ (by simp) rfl
     have ht1:=act_tmp (hat 1 18 kd rfl);clear hat hoff hp;rw [hv0] at ht0;rw [hv1] at ht1
     exact wp_value' (.pointer (some (ad.add (k*9)))) W (by unfold execOp;go_simp) ⟨_,rfl,rfl,hGW,hrefl W⟩
    | 3=>
     cases ho
     have hv2:SopV ad ad' n c c' k #[.int .i64 x1,.int .i64 x2,.int .i64 x3,.int .i64 x4,.int .i64 x5,.int .i64 x6,.string x7,.int .i64 x8,.slice hA hn1 hc1] #[.int .i64 x1,.int .i64 x2,.int .i64 x3,.int .i64 x4,.int .i64 x5,.int .i64 x6,.string x7,.int .i64 x8,.slice hA' hn' hc'] 2 (U 2) W:=hp ⟨2,.data⟩ (by simp) rfl
     have ht2:=act_tmp (hat 2 19 kd rfl);clear hat hoff hp;rw [hv2] at ht2;obtain⟨k0,k1,k2,k3,k4,k5,k6,k7,k8⟩:=HP.out.below hGW HAB.out
     exact wp_value' (.agg #[.int .i64 x1,.int .i64 x2,.int .i64 x3,.int .i64 x4,.int .i64 x5,.int .i64 x6,.string x7,.int .i64 x8,.slice hA hn1 hc1]) W (by unfold execOp;go_simp) ⟨_,rfl,rfl,hGW,hrefl W⟩
    | 4=>cases ho;exact wp_move' (.tmp 1) rfl ⟨_,rfl,(hoff 1 kd).trans rfl,hGW,hrefl W⟩
    | 5=>cases ho;exact wp_move' (.tmp 5) rfl ⟨_,rfl,(hoff 5 kd).trans rfl,hGW,hrefl W⟩
    | 6=>
     cases ho
     have hv4:SopV ad ad' n c c' k #[.int .i64 x1,.int .i64 x2,.int .i64 x3,.int .i64 x4,.int .i64 x5,.int .i64 x6,.string x7,.int .i64 x8,.slice hA hn1 hc1] #[.int .i64 x1,.int .i64 x2,.int .i64 x3,.int .i64 x4,.int .i64 x5,.int .i64 x6,.string x7,.int .i64 x8,.slice hA' hn' hc'] 4 (U 4) W:=hp ⟨4,.data⟩ (by simp) rfl
     have ht4:=act_tmp (hat 4 21 kd rfl)
     have hv5:SopV ad ad' n c c' k #[.int .i64 x1,.int .i64 x2,.int .i64 x3,.int .i64 x4,.int .i64 x5,.int .i64 x6,.string x7,.int .i64 x8,.slice hA hn1 hc1] #[.int .i64 x1,.int .i64 x2,.int .i64 x3,.int .i64 x4,.int .i64 x5,.int .i64 x6,.string x7,.int .i64 x8,.slice hA' hn' hc'] 5 (U 5) W:=hp ⟨5,.data⟩ (by simp) rfl
     have ht5:=act_tmp (hat 5 22 kd rfl);clear hat hoff hp;rw [hv4] at ht4;rw [hv5] at ht5
     exact wp_value' (.pointer (some (ad'.add (k*9)))) W (by unfold execOp;go_simp) ⟨_,rfl,rfl,hGW,hrefl W⟩
    | 7=>
     cases ho
     have hv6:SopV ad ad' n c c' k #[.int .i64 x1,.int .i64 x2,.int .i64 x3,.int .i64 x4,.int .i64 x5,.int .i64 x6,.string x7,.int .i64 x8,.slice hA hn1 hc1] #[.int .i64 x1,.int .i64 x2,.int .i64 x3,.int .i64 x4,.int .i64 x5,.int .i64 x6,.string x7,.int .i64 x8,.slice hA' hn' hc'] 6 (U 6) W:=hp ⟨6,.data⟩ (by simp) rfl
     have ht6:=act_tmp (hat 6 23 kd rfl);clear hat hoff hp;rw [hv6] at ht6;obtain⟨k0,k1,k2,k3,k4,k5,k6,k7,k8⟩:=HP'.out.below hGW HAB'.out
     exact wp_value' (.agg #[.int .i64 x1,.int .i64 x2,.int .i64 x3,.int .i64 x4,.int .i64 x5,.int .i64 x6,.string x7,.int .i64 x8,.slice hA' hn' hc']) W (by unfold execOp;go_simp) ⟨_,rfl,rfl,hGW,hrefl W⟩
    | 8=>
     cases ho
     have hv3:SopV ad ad' n c c' k #[.int .i64 x1,.int .i64 x2,.int .i64 x3,.int .i64 x4,.int .i64 x5,.int .i64 x6,.string x7,.int .i64 x8,.slice hA hn1 hc1] #[.int .i64 x1,.int .i64 x2,.int .i64 x3,.int .i64 x4,.int .i64 x5,.int .i64 x6,.string x7,.int .i64 x8,.slice hA' hn' hc'] 3 (U 3) W:=hp ⟨3,.data⟩ (by simp) rfl
     have ht3:=act_tmp (hat 3 20 kd rfl)
     have hv7:SopV ad ad' n c c' k #[.int .i64 x1,.int .i64 x2,.int .i64 x3,.int .i64 x4,.int .i64 x5,.int .i64 x6,.string x7,.int .i64 x8,.slice hA hn1 hc1] #[.int .i64 x1,.int .i64 x2,.int .i64 x3,.int .i64 x4,.int .i64 x5,.int .i64 x6,.string x7,.int .i64 x8,.slice hA' hn' hc'] 7 (U 7) W:=hp ⟨7,.data⟩ (by simp) rfl
     have ht7:=act_tmp (hat 7 24 kd rfl);clear hat hoff hp;rw [hv3] at ht3;rw [hv7] at ht7
     refine wp_enter' 71 #[.agg #[.int .i64 x1,.int .i64 x2,.int .i64 x3,.int .i64 x4,.int .i64 x5,.int .i64 x6,.string x7,.int .i64 x8,.slice hA hn1 hc1],.agg #[.int .i64 x1,.int .i64 x2,.int .i64 x3,.int .i64 x4,.int .i64 x5,.int .i64 x6,.string x7,.int .i64 x8,.slice hA' hn' hc']] (by unfold execOp;go_simp) ?_
     refine (sameOp_any ⟨x1,x2,x3,x4,x5,x6,x7,x8,x9⟩ W (HS.out.below hGW) (HS'.out.below hGW) hz).mono ?_
     exact Y65
    | 9=>
     cases ho
     have hv8:SopV ad ad' n c c' k #[.int .i64 x1,.int .i64 x2,.int .i64 x3,.int .i64 x4,.int .i64 x5,.int .i64 x6,.string x7,.int .i64 x8,.slice hA hn1 hc1] #[.int .i64 x1,.int .i64 x2,.int .i64 x3,.int .i64 x4,.int .i64 x5,.int .i64 x6,.string x7,.int .i64 x8,.slice hA' hn' hc'] 8 (U 8) W:=hp ⟨8,.data⟩ (by simp) rfl
     have ht8:=act_tmp (hat 8 25 kd rfl);clear hat hoff hp;rw [hv8] at ht8
     exact wp_value' (.bool false) W (by unfold execOp;go_simp) ⟨_,rfl,rfl,hGW,hrefl W⟩
    | i+10=>exact absurd ho (by simp)
   case hend=>
    intro U W hGW hV
    have h9:U 9=.bool false:=hV 9 kd
    obtain⟨HG,HU⟩:=J2 hGW h9
    clear hV hGW h9
    simp [putU,dstAt,Act.put,HU.out]
    go_wp2
    go_roundw
    case rel=>exact⟨k+1,by omega,by go_num,HB.out.trans (HG.out.mono HB.out.size)⟩
    case measure=>simp [intOf];omega
  ·obtain rfl:n=k:=by omega
   exact Y91
end Go.Proofs.Ytaipgdhdfpemcaa
