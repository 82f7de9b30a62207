/- THE WALKS OF THE LANE, part 11. -/
import Derived.Test.YtaipgdhdfpemcaaG10
namespace Go.Proofs.Ytaipgdhdfpemcaa
set_option linter.all false
open Go.RowKit Go.Proofs.Try
set_option maxRecDepth 100000
set_option maxHeartbeats 4000000
def SopV (ad ad':Addr) (n c c' k:Nat) (o o':Array Value):Nat->Value->World->Prop
 | 0,v,_=>v=.slice (some ad) n c
 | 1,v,_=>v=.int .i64 k
 | 2,v,_=>v=.pointer (some (ad.add (k*9)))
 | 3,v,_=>v=.agg o
 | 4,v,_=>v=.slice (some ad') n c'
 | 5,v,_=>v=.int .i64 k
 | 6,v,_=>v=.pointer (some (ad'.add (k*9)))
 | 7,v,_=>v=.agg o'
 | 8,v,_=>v=.bool true
 | 9,v,_=>v=.bool false
 | _,_,_=>True
theorem sameOps_any {A A':O} {n n' c c':Nat} {xs:List OpC} {S S':Nat->Prop} (w:World) (h:OpsIs w S A n c xs) (h':OpsIs w S' A' n' c' xs) (hn:n<=140737488351232) (hok:∀ o∈xs,o.hs.length<=140737488351232) :
 Calls prog 21 #[.slice A n c,.slice A' n' c'] w fun e w'=>e=.returned (.bool true)/\Below w w w':=by
 obtain rfl:n=n':=by rw [<-h.len,<-h'.len]
 have HR:=J h
 have HR':=J h'
 have HO:=J hok
 clear h h' hok
 go_enter func21,ntmps21
 go_wp2_with fail
 go_loopw [5] (fun i wr=>∃ k:Nat,k<=n/\i=.int .i64 k/\Below w w wr) (fun i _=>n-(intOf i).toNat)
 case atStart=>exact⟨0,by omega,rfl,Below.refl _ _⟩
 case round=>
  obtain⟨k,hk,rfl,hb⟩:=hrel
  have HB:=J hb
  clear hb
  rcases Nat.lt_or_ge k n with hk1|hk1
  ·obtain⟨ad,o,hA,hn1,hc1,rfl,hab,hck,hop,hss⟩:=(HR.out.below HB.out).at_ hk1
   obtain⟨ad',o',hA',hn',hc',rfl,hab',hck',hop',hss'⟩:=(HR'.out.below HB.out).at_ hk1
   rw [hck] at hck'
   injection hck' with hck'
   subst hck'
   have hz:hn1<=140737488351232:=by rw [<-hss.len];exact HO.out o (List.mem_of_getElem? hck)
   obtain⟨x1,x2,x3,x4,x5,x6,x7,x8,x9⟩:=o
   simp only [OpC.at_] at hop hop' hss hss'
   have HP:=J hop
   have HP':=J hop'
   have HS:=J hss
   have HS':=J hss'
   have HAB:=J hab
   have HAB':=J hab'
   clear hck hop hop' hss hss' hab hab'
   have b1:(0:Int)<=(k:Int):=by omega
   have b2:(k:Int)<(n:Int):=by omega
   go_wp2_with fail
   refine wp_region_yields kr (SopV ad ad' n c c' k #[.int .i64 x1,.int .i64 x2,.int .i64 x3,.int .i64 x4,.int .i64 x5,.int .i64 x6,.string x7,.int .i64 x8,.slice hA hn1 hc1] #[.int .i64 x1,.int .i64 x2,.int .i64 x3,.int .i64 x4,.int .i64 x5,.int .i64 x6,.string x7,.int .i64 x8,.slice hA' hn' hc']) (fun W=>Below wr wr W) (fun W W'=>Below W W W') kr ?hG ?hmono ?hstep ?hend
   case hG=>exact (Below.refl _ _).drew
   case hmono=>
    intro i v W W' _ hv
    match i with
    | 0|1|2|3|4|5|6|7|8|9=>exact hv
    | i+10=>exact hv
   case hstep=>
    intro i o F U W ho hGW hat hoff hp
    have hrefl:=fun W:World=>Below.refl W.heap.size W
    match i with
    | 0=>cases ho;exact wp_move' (.tmp 0) rfl ⟨_,rfl,(hoff 0 kd).trans rfl,hGW,hrefl W⟩
    | 1=>cases ho;exact wp_move' (.tmp 5) rfl ⟨_,rfl,(hoff 5 kd).trans rfl,hGW,hrefl W⟩
    | 2=>
     cases ho
     have hv0:SopV ad ad' n c c' k #[.int .i64 x1,.int .i64 x2,.int .i64 x3,.int .i64 x4,.int .i64 x5,.int .i64 x6,.string x7,.int .i64 x8,.slice hA hn1 hc1] #[.int .i64 x1,.int .i64 x2,.int .i64 x3,.int .i64 x4,.int .i64 x5,.int .i64 x6,.string x7,.int .i64 x8,.slice hA' hn' hc'] 0 (U 0) W:=hp ⟨0,.data⟩ (by simp) rfl
     have ht0:=act_tmp (hat 0 17 kd rfl)
     have hv1:SopV ad ad' n c c' k #[.int .i64 x1,.int .i64 x2,.int .i64 x3,.int .i64 x4,.int .i64 x5,.int .i64 x6,.string x7,.int .i64 x8,.slice hA hn1 hc1] #[.int .i64 x1,.int .i64 x2,.int .i64 x3,.int .i64 x4,.int .i64 x5,.int .i64 x6,.string x7,.int .i64 x8,.slice hA' hn' hc'] 1 (U 1) W:=hp ⟨1,.data⟩ (by simp) rfl
     have ht1:=act_tmp (hat 1 18 kd rfl);clear hat hoff hp;rw [hv0] at ht0;rw [hv1] at ht1
     exact wp_value' (.pointer (some (ad.add (k*9)))) W (by unfold execOp;go_simp) ⟨_,rfl,rfl,hGW,hrefl W⟩
    | 3=>
     cases ho
     have hv2:SopV ad ad' n c c' k #[.int .i64 x1,.int .i64 x2,.int .i64 x3,.int .i64 x4,.int .i64 x5,.int .i64 x6,.string x7,.int .i64 x8,.slice hA hn1 hc1] #[.int .i64 x1,.int .i64 x2,.int .i64 x3,.int .i64 x4,.int .i64 x5,.int .i64 x6,.string x7,.int .i64 x8,.slice hA' hn' hc'] 2 (U 2) W:=hp ⟨2,.data⟩ (by simp) rfl
     have ht2:=act_tmp (hat 2 19 kd rfl);clear hat hoff hp;rw [hv2] at ht2;obtain⟨k0,k1,k2,k3,k4,k5,k6,k7,k8⟩:=HP.out.below hGW HAB.out
     exact wp_value' (.agg #[.int .i64 x1,.int .i64 x2,.int .i64 x3,.int .i64 x4,.int .i64 x5,.int .i64 x6,.string x7,.int .i64 x8,.slice hA hn1 hc1]) W (by unfold execOp;go_simp) ⟨_,rfl,rfl,hGW,hrefl W⟩
    | 4=>cases ho;exact wp_move' (.tmp 1) rfl ⟨_,rfl,(hoff 1 kd).trans rfl,hGW,hrefl W⟩
    | 5=>cases ho;exact wp_move' (.tmp 5) rfl ⟨_,rfl,(hoff 5 kd).trans rfl,hGW,hrefl W⟩
    | 6=>
     cases ho
     have hv4:SopV ad ad' n c c' k #[.int .i64 x1,.int .i64 x2,.int .i64 x3,.int .i64 x4,.int .i64 x5,.int .i64 x6,.string x7,.int .i64 x8,.slice hA hn1 hc1] #[.int .i64 x1,.int .i64 x2,.int .i64 x3,.int .i64 x4,.int .i64 x5,.int .i64 x6,.string x7,.int .i64 x8,.slice hA' hn' hc'] 4 (U 4) W:=hp ⟨4,.data⟩ (by simp) rfl
     have ht4:=act_tmp (hat 4 21 kd rfl)
     have hv5:SopV ad ad' n c c' k #[.int .i64 x1,.int .i64 x2,.int .i64 x3,.int .i64 x4,.int .i64 x5,.int .i64 x6,.string x7,.int .i64 x8,.slice hA hn1 hc1] #[.int .i64 x1,.int .i64 x2,.int .i64 x3,.int .i64 x4,.int .i64 x5,.int .i64 x6,.string x7,.int .i64 x8,.slice hA' hn' hc'] 5 (U 5) W:=hp ⟨5,.data⟩ (by simp) rfl
     have ht5:=act_tmp (hat 5 22 kd rfl);clear hat hoff hp;rw [hv4] at ht4;rw [hv5] at ht5
     exact wp_value' (.pointer (some (ad'.add (k*9)))) W (by unfold execOp;go_simp) ⟨_,rfl,rfl,hGW,hrefl W⟩
    | 7=>
     cases ho
     have hv6:SopV ad ad' n c c' k #[.int .i64 x1,.int .i64 x2,.int .i64 x3,.int .i64 x4,.int .i64 x5,.int .i64 x6,.string x7,.int .i64 x8,.slice hA hn1 hc1] #[.int .i64 x1,.int .i64 x2,.int .i64 x3,.int .i64 x4,.int .i64 x5,.int .i64 x6,.string x7,.int .i64 x8,.slice hA' hn' hc'] 6 (U 6) W:=hp ⟨6,.data⟩ (by simp) rfl
     have ht6:=act_tmp (hat 6 23 kd rfl);clear hat hoff hp;rw [hv6] at ht6;obtain⟨k0,k1,k2,k3,k4,k5,k6,k7,k8⟩:=HP'.out.below hGW HAB'.out
     exact wp_value' (.agg #[.int .i64 x1,.int .i64 x2,.int .i64 x3,.int .i64 x4,.int .i64 x5,.int .i64 x6,.string x7,.int .i64 x8,.slice hA' hn' hc']) W (by unfold execOp;go_simp) ⟨_,rfl,rfl,hGW,hrefl W⟩
    | 8=>
     cases ho
     have hv3:SopV ad ad' n c c' k #[.int .i64 x1,.int .i64 x2,.int .i64 x3,.int .i64 x4,.int .i64 x5,.int .i64 x6,.string x7,.int .i64 x8,.slice hA hn1 hc1] #[.int .i64 x1,.int .i64 x2,.int .i64 x3,.int .i64 x4,.int .i64 x5,.int .i64 x6,.string x7,.int .i64 x8,.slice hA' hn' hc'] 3 (U 3) W:=hp ⟨3,.data⟩ (by simp) rfl
     have ht3:=act_tmp (hat 3 20 kd rfl)
     have hv7:SopV ad ad' n c c' k #[.int .i64 x1,.int .i64 x2,.int .i64 x3,.int .i64 x4,.int .i64 x5,.int .i64 x6,.string x7,.int .i64 x8,.slice hA hn1 hc1] #[.int .i64 x1,.int .i64 x2,.int .i64 x3,.int .i64 x4,.int .i64 x5,.int .i64 x6,.string x7,.int .i64 x8,.slice hA' hn' hc'] 7 (U 7) W:=hp ⟨7,.data⟩ (by simp) rfl
     have ht7:=act_tmp (hat 7 24 kd rfl);clear hat hoff hp;rw [hv3] at ht3;rw [hv7] at ht7
     refine wp_enter' 71 #[.agg #[.int .i64 x1,.int .i64 x2,.int .i64 x3,.int .i64 x4,.int .i64 x5,.int .i64 x6,.string x7,.int .i64 x8,.slice hA hn1 hc1],.agg #[.int .i64 x1,.int .i64 x2,.int .i64 x3,.int .i64 x4,.int .i64 x5,.int .i64 x6,.string x7,.int .i64 x8,.slice hA' hn' hc']] (by unfold execOp;go_simp) ?_
     refine (sameOp_any ⟨x1,x2,x3,x4,x5,x6,x7,x8,x9⟩ W (HS.out.below hGW) (HS'.out.below hGW) hz).mono ?_
     rintro e W' ⟨rfl,hb⟩
     exact⟨_,rfl,_,rfl,rfl,hGW.trans (hb.mono hGW.size),hb⟩
    | 9=>
     cases ho
     have hv8:SopV ad ad' n c c' k #[.int .i64 x1,.int .i64 x2,.int .i64 x3,.int .i64 x4,.int .i64 x5,.int .i64 x6,.string x7,.int .i64 x8,.slice hA hn1 hc1] #[.int .i64 x1,.int .i64 x2,.int .i64 x3,.int .i64 x4,.int .i64 x5,.int .i64 x6,.string x7,.int .i64 x8,.slice hA' hn' hc'] 8 (U 8) W:=hp ⟨8,.data⟩ (by simp) rfl
     have ht8:=act_tmp (hat 8 25 kd rfl);clear hat hoff hp;rw [hv8] at ht8
     exact Y52
    | i+10=>exact absurd ho (by simp)
   case hend=>
    intro U W hGW hV
    have h9:U 9=.bool false:=hV 9 kd
    obtain⟨HG,HU⟩:=J2 hGW h9
    clear hV hGW h9
    simp [putU,dstAt,Act.put,HU.out]
    go_wp2
    go_roundw
    case rel=>exact⟨k+1,by omega,by go_num,HB.out.trans (HG.out.mono HB.out.size)⟩
    case measure=>simp [intOf];omega
  ·obtain rfl:n=k:=by omega
   exact Y78
theorem ownOps_row (A:O) (n cap:Nat) (cs:List OpC) (w:World) {S:Nat->Prop} (h:OpsIs w S A n cap cs) (hn:n<=4294967296) (hok:∀ c∈cs,c.Ok) :
 Calls prog 34 #[.slice A n cap] w fun e w'=>∃ v os,e=.returned v/\w'.ownsRow w.heap.size 45 9 v n (opsV os)/\OpsV w' (Off w.heap.size v.ownBlock) os cs/\Below w w w':=by
 have hlen:=h.len
 obtain⟨HR,HL,HO⟩:=J3 h hlen hok
 clear h hlen hok
 obtain⟨i0,hi0,hz0,hz1,hz2⟩:=info_parts Try.infoOp
 obtain⟨HI,HZ0,HZ1,HZ2⟩:=J4 hi0 hz0 hz1 hz2
 obtain⟨j0,hj0,hy0,hy1,hy2⟩:=info_parts Try.infoStr
 obtain⟨HJ,HY0,HY1,HY2⟩:=J4 hj0 hy0 hy1 hy2
 clear hi0 hz0 hz1 hz2 hj0 hy0 hy1 hy2
 go_enter func34,ntmps34
 go_wp2_with fail
 go_loopw [3,4] (fun v i wr=>∃ (k:Nat) (os:List Opd),k<=n/\i=.int .i64 k/\wr.ownsRow w.heap.size 45 9 v k (opsV os)/\OpsV wr (Off w.heap.size v.ownBlock) os (cs.take k)/\Below w w wr) (fun _ i _=>n-(intOf i).toNat)
 case atStart=>exact⟨0,[],by omega,rfl,World.ownsRow_nil _ _ _ _,by simp [OpsV],Below.refl _ _⟩
 case round=>
  obtain⟨k,os,hk,rfl,hown,hov,hb⟩:=hrel
  obtain⟨HB,HV,HW⟩:=J3 hb hov hown
  clear hb hov hown
  rcases Nat.lt_or_ge k n with hk1|hk1
  ·obtain⟨ad,c,hA,hn',hc,rfl,hab,hck,hop,hss⟩:=(HR.out.below HB.out).at_ hk1
   exact Y1
  ·obtain rfl:n=k:=by omega
   have hv:=HV.out
   rw [List.take_of_length_le (by rw [HL.out];exact Nat.le_refl _)] at hv
   have HV2:=J hv
   clear hv
   go_wp2
   go_ret
   exact⟨_,os,rfl,HW.out,HV2.out,HB.out⟩
def numO (i:Nat):List Opd->List Opd
 | []=>[]
 | o::l=>{o with n:=((i:Nat):Int)+1}::numO (i+1) l
def numC (i:Nat):List OpC->List OpC
 | []=>[]
 | c::l=>{c with n:=((i:Nat):Int)+1}::numC (i+1) l
section
variable {ad:Addr} {xs:List Value} {B n size:Nat} {S:Nat->Prop} {w:World}
theorem numO_len (i:Nat) (l:List Opd):(numO i l).length=l.length:=by
 induction l generalizing i with
 | nil=>rfl
 | cons a l ih=>simp [numO,ih]
theorem numC_len (i:Nat) (l:List OpC):(numC i l).length=l.length:=by
 induction l generalizing i with
 | nil=>rfl
 | cons a l ih=>simp [numC,ih]
theorem numO_at (i:Nat) (l:List Opd) (k:Nat) (o:Opd) (h:l[k]? = some o):(numO i l)[k]? = some {o with n:=((i+k:Nat):Int)+1}:=by
 induction l generalizing i k with
 | nil=>simp at h
 | cons a l ih=>
  rcases k with _|k
  ·simp only [List.getElem?_cons_zero,Option.some.injEq] at h
   subst h
   simp [numO]
  ·have:=ih (i+1) k (by simpa using h)
   simp only [numO,List.getElem?_cons_succ]
   rw [this,show i+1+k=i+(k+1) by omega]
theorem numC_at (i:Nat) (l:List OpC) (k:Nat) (o:OpC) (h:l[k]? = some o):(numC i l)[k]? = some {o with n:=((i+k:Nat):Int)+1}:=by
 induction l generalizing i k with
 | nil=>simp at h
 | cons a l ih=>
  rcases k with _|k
  ·simp only [List.getElem?_cons_zero,Option.some.injEq] at h
   subst h
   simp [numC]
  ·have:=ih (i+1) k (by simpa using h)
   simp only [numC,List.getElem?_cons_succ]
   rw [this,show i+1+k=i+(k+1) by omega]
theorem OpsV.numb:∀ {ds:List Opd} {cs:List OpC} (i:Nat),OpsV w S ds cs->OpsV w S (numO i ds) (numC i cs)
 | [],[],_,_=>trivial
 | o::ds,c::cs,i,h=>by
  obtain⟨⟨A,n,cap,e,hs⟩,h2⟩:=h
  subst e
  exact⟨⟨A,n,cap,rfl,hs⟩,OpsV.numb (i+1) h2⟩
 | [],_::_,_,h=>h.elim
 | _::_,[],_,h=>h.elim
theorem opsV_cons (o:Opd) (l:List Opd):opsV (o::l)=o.cells++opsV l:=by simp [opsV]
theorem numO_step (os:List Opd) (k:Nat) (h:k<os.length) :
 (opsV ((numO 0 os).take k++os.drop k)).set (k*9) (.int .i64 ((k:Int)+1))=opsV ((numO 0 os).take (k+1)++os.drop (k+1)):=by
 have ho:os[k]? = some os[k]:=List.getElem?_eq_getElem h
 have hN:=numO_at 0 os k _ ho
 have hl:(opsV ((numO 0 os).take k)).length=k*9:=by rw [opsV_len,List.length_take,numO_len];congr 1;omega
 rw [List.take_add_one,hN,List.drop_eq_getElem_cons h,opsV_append,opsV_append,opsV_append,opsV_cons,List.set_append_right _ _ (by omega),hl,Nat.sub_self,List.append_assoc]
 congr 1
 simp [Option.toList,opsV,Opd.cells]
theorem Reads.set_ (h:Reads w B size (some ad) n xs) (j0:Nat) (u:Value) (hj:j0<xs.length) (hn:0<n):Reads (w.setCell (ad.add j0) u) B size (some ad) n (xs.set j0 u):=by
 refine⟨by rw [List.length_set];exact h.1,fun _=>?_⟩
 obtain⟨ad',e,hb,hc⟩:=h.2 hn
 injection e with e
 subst e
 refine⟨_,rfl,hb,fun j v hv=>?_⟩
 rw [List.getElem?_set] at hv
 by_cases hj0:j0=j
 ·subst hj0
  rw [if_pos rfl,if_pos hj] at hv
  injection hv with hv
  subst hv
  have hx:=hc j0 _ (List.getElem?_eq_getElem hj)
  exact World.cell?_setCell_same w _ u (by rw [hx])
 ·rw [if_neg hj0] at hv
  rw [World.cell?_setCell_other _ _ _ _ (fun e=>hj0 ?_)]
  ·exact hc j v hv
  ·have e1:(ad.add j).off=(ad.add j0).off:=by rw [e]
   unfold Addr.add at e1
   by_cases h1:j=0<;>by_cases h2:j0=0<;>simp [h1,h2] at e1<;>omega
end
def numbC (cs:List OpC):List OpC:=numC 0 (cs.take 80)
theorem numbered_some (ad:Addr) (n cap:Nat) (cs:List OpC) (w:World) {S:Nat->Prop} (h:OpsIs w S (some ad) n cap cs) (hn:n<=4294967296) (hok:∀ c∈cs,c.Ok) :
 Calls prog 31 #[.slice (some ad) n cap] w fun e w'=>∃ A' n' cap',e=.returned (.slice A' n' cap')/\OpsIs w' (From w.heap.size) A' n' cap' (numbC cs)/\n'<=80/\Below w w w':=by
 obtain⟨n1,hn1⟩:∃ n1,n1=min n 80:=⟨_,rfl⟩
 have hlen:=h.len
 have hcap:n<=cap:=by obtain⟨_,_,_,h,_⟩:=h;exact h
 have hcm:cap<=maxLen:=by obtain⟨_,_,_,_,h⟩:=h;exact h
 have ht:OpsIs w S (some ad) n1 cap (cs.take 80):=by
  obtain⟨os,h1,h2,h3,h4⟩:=h
  refine⟨os.take n1,?_,?_,by omega,h4⟩
  ·have hl:=h2.len
   rw [<-opsV_take os n1 (by omega)]
   refine⟨?_,fun hn=>?_⟩
   ·rw [List.length_take,h1.1];omega
   ·obtain⟨ad',e,x1,x2,x3⟩:=h1.2 (by omega)
    refine⟨ad',e,x1,x2,fun j u hu=>x3 j u ?_⟩
    exact Y87
  ·have e : cs.take 80 = cs.take n1 := by
    by_cases h80:80<n
    ·congr 1;omega
    ·rw [List.take_of_length_le (by omega),List.take_of_length_le (by omega)]
   rw [e]
   exact h2.take n1
 have hok':∀ c∈cs.take 80,c.Ok:=fun c hc=>hok c (List.mem_of_mem_take hc)
 obtain⟨HT,HO⟩:=J2 ht hok'
 have hn80:n1<=80:=by omega
 have hnc:n1<=cap:=by omega
 have HM:=J hn1
 have hloop:∀ (v:Value) (os:List Opd) (w1:World),w1.ownsRow w.heap.size 45 9 v n1 (opsV os)->0<n1->∃ g c cur,v=.slice (some ⟨g,0,none⟩) n1 c/\n1<=c/\c<=maxLen/\w.heap.size<=g/\Blk w1 g 45 cur/\Reads w1 w1.heap.size 9 (some ⟨g,0,none⟩) n1 (opsV os):=by
  intro v os w1 ho hp
  rcases ho.2 with ⟨rfl,rfl⟩|⟨g,cap,cur,rfl,hg,hh,hn,hm,_⟩
  ·omega
  ·exact⟨g,cap,cur,rfl,hn,hm,hg,hh,Reads.of_own (c:=cap) ho⟩
 have HLP:=J hloop
 clear h hok hok' ht hn1 hloop hlen hcm
 by_cases h80:80<n
 ·have e1:n1=80:=by have:=HM.out;omega
  subst e1
  have t80:decide ((80:Int)<(n:Nat))=true:=decide_eq_true (by omega)
  go_enter func31,ntmps31
  go_wp2_with fail
  refine (ownOps_row (some ad) 80 cap (cs.take 80) w HT.out (by omega) HO.out).mono ?_
  rintro e w1 ⟨v,os,rfl,hown,hov,hb⟩
  have hol:os.length=80:=by have:=hown.1;rw [opsV_len] at this;omega
  obtain⟨HB,HV,HOL⟩:=J3 hb hov hol
  rcases Nat.eq_zero_or_pos 80 with h0|hpos
  ·exact absurd h0 (by omega)
  ·obtain⟨g,c',cur,rfl,hc1,hcm,hge,hbk,hrd⟩:=HLP.out v os w1 hown hpos
   obtain⟨HBK,HRD,HCM⟩:=J3 hbk hrd hcm
   clear hown hov hb hol hbk hrd hcm
   go_wp2_with fail
   go_loopw [13] (fun i wr=>∃ (k:Nat) (cu:Array Value),k<=80/\i=.int .i64 k/\Blk wr g 45 cu/\Reads wr wr.heap.size 9 (some ⟨g,0,none⟩) 80 (opsV ((numO 0 os).take k++os.drop k))/\OpsV wr (Off w.heap.size (some g)) os (cs.take 80)/\Below w w wr) (fun i _=>80-(intOf i).toNat)
   case atStart=>exact⟨0,cur,by omega,rfl,HBK.out,by simpa using HRD.out,HV.out,HB.out⟩
   case round=>
    obtain⟨k,cu,hk,rfl,hbk,hrd,hov,hb⟩:=hrel
    rcases Nat.lt_or_ge k 80 with hk1|hk1
    ·have f0:=hbk.frozen (k*9)
     have hxl:(opsV ((numO 0 os).take k++os.drop k)).length=80*9:=hrd.1
     exact Y13
    ·obtain rfl:k=80:=by omega
     obtain⟨HRD2,HOV,HB2⟩:=J3 hrd hov hb
     clear hbk hov hb hrd
     go_wp2
     go_ret
     have hr:=HRD2.out
     rw [List.take_of_length_le (by rw [numO_len];have:=HOL.out;omega),List.drop_of_length_le (by have:=HOL.out;omega),List.append_nil] at hr
     exact⟨_,80,c',rfl,⟨numO 0 os,Rs.of hr fun _ ad e=>by injection e with e;subst e;exact hge,(HOV.out.mono fun b _ h=>h.1).numb 0,hc1,HCM.out⟩,by omega,HB2.out⟩
 ·have e1:n1=n:=by have:=HM.out;omega
  subst e1
  have t80:decide ((80:Int)<(n1:Nat))=false:=decide_eq_false (by omega)
  go_enter func31,ntmps31
  go_wp2_with fail
  refine (ownOps_row (some ad) n1 cap (cs.take 80) w HT.out (by omega) HO.out).mono ?_
  rintro e w1 ⟨v,os,rfl,hown,hov,hb⟩
  have hol:os.length=n1:=by have:=hown.1;rw [opsV_len] at this;omega
  obtain⟨HB,HV,HOL⟩:=J3 hb hov hol
  rcases Nat.eq_zero_or_pos n1 with h0|hpos
  ·obtain⟨A',c',rfl,hc1,hcm,hrd⟩:=own_slice hown
   have e0:os=[]:=List.eq_nil_of_length_eq_zero (by omega)
   have HR:=J (⟨os,Rs.of hrd fun _ ad e=>(hown.lt ad.block (by rw [e];rfl)).1,hov.mono fun b _ h=>h.1,hc1,hcm⟩:OpsIs w1 (From w.heap.size) A' n1 c' (cs.take 80))
   have hz:=HT.out.len
   have e1:cs.take 80=[]:=List.eq_nil_of_length_eq_zero (by omega)
   have E1:=J e1
   clear hown hov hb hol hrd e0 hcm e1 hz
   go_wp2_with fail
   go_loopw [13] (fun i wr=>i=.int .i64 0/\wr=w1) (fun _ _=>0)
   case atStart=>exact⟨rfl,rfl⟩
   case round=>
    obtain⟨rfl,rfl⟩:=hrel
    have d0:decide ((0:Int)<(n1:Nat))=false:=decide_eq_false (by omega)
    go_wp2
    go_ret
    refine⟨A',0,c',rfl,?_,by omega,HB.out⟩
    have hr:=HR.out
    rw [show n1=0 from h0] at hr
    unfold numbC
    rw [E1.out] at hr ⊢
    exact hr
  ·obtain⟨g,c',cur,rfl,hc1,hcm,hge,hbk,hrd⟩:=HLP.out v os w1 hown hpos
   obtain⟨HBK,HRD,HCM⟩:=J3 hbk hrd hcm
   clear hown hov hb hol hbk hrd hcm
   go_wp2_with fail
   go_loopw [13] (fun i wr=>∃ (k:Nat) (cu:Array Value),k<=n1/\i=.int .i64 k/\Blk wr g 45 cu/\Reads wr wr.heap.size 9 (some ⟨g,0,none⟩) n1 (opsV ((numO 0 os).take k++os.drop k))/\OpsV wr (Off w.heap.size (some g)) os (cs.take 80)/\Below w w wr) (fun i _=>n1-(intOf i).toNat)
   case atStart=>exact⟨0,cur,by omega,rfl,HBK.out,by simpa using HRD.out,HV.out,HB.out⟩
   case round=>
    obtain⟨k,cu,hk,rfl,hbk,hrd,hov,hb⟩:=hrel
    rcases Nat.lt_or_ge k n1 with hk1|hk1
    ·have f0:=hbk.frozen (k*9)
     have hxl:(opsV ((numO 0 os).take k++os.drop k)).length=n1*9:=hrd.1
     exact Y13
    ·obtain rfl:n1=k:=by omega
     obtain⟨HRD2,HOV,HB2⟩:=J3 hrd hov hb
     clear hbk hov hb hrd
     go_wp2
     go_ret
     have hr:=HRD2.out
     rw [List.take_of_length_le (by rw [numO_len];have:=HOL.out;omega),List.drop_of_length_le (by have:=HOL.out;omega),List.append_nil] at hr
     exact⟨_,n1,c',rfl,⟨numO 0 os,Rs.of hr fun _ ad e=>by injection e with e;subst e;exact hge,(HOV.out.mono fun b _ h=>h.1).numb 0,hc1,HCM.out⟩,by omega,HB2.out⟩
end Go.Proofs.Ytaipgdhdfpemcaa
