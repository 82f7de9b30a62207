/- THE WALKS OF THE LANE, part 6. -/
import Derived.Test.YtaipgdhdfpemcaaRows
import Derived.Test.YtaipgdhdfpemcaaG2
import Derived.Test.YtaipgdhdfpemcaaG5
namespace Go.Proofs.Ytaipgdhdfpemcaa
set_option linter.all false
open Go.RowKit Go.Proofs.Try
set_option maxRecDepth 100000
set_option maxHeartbeats 4000000
section
variable {l:List Int} {B k n:Nat} {A:O} {w:World}
section
variable (h:Reads w B 1 A n (intV .i64 l))
include h
theorem int_at (hk:k<n):∃ ad,A=some ad/\w.cell? (ad.add k)=some (.int .i64 (l.getD k 0)):=by
 obtain⟨ad,u,hA,_,hu,hc⟩:=h.at_ hk
 have hl:k<l.length:=by have:=h.1;simp [intV] at this;omega
 rw [intV_at .i64 l k hl] at hu
 injection hu with hu
 refine⟨ad,hA,?_⟩
 rw [hc,<-hu]
 simp [List.getD,hl]
theorem ints_len:l.length=n:=by
 have:=h.1
 simpa [intV] using this
end
theorem Try.infoInt:(prog.info? 3).map (fun i=>(i.zero,i.size,i.bytes))=some (some (.int .i64 0),1,8):=by kernel_rfl
theorem intV_one (l:List Int):∀ u∈intV .i64 l,u.oneCell'=true:=by
 intro u hu
 simp only [intV,List.mem_map] at hu
 obtain⟨s,_,rfl⟩:=hu
 rfl
theorem upTo_any (B:Nat) (A:O) (n c:Nat) (l:List Int) (w:World) (h:Reads w B 1 A n (intV .i64 l)) (hn:n<=maxLen) (m e:Int) (hm : -9223372036854775808<=m/\m<=9223372036854775807) :
 Calls prog 96 #[.slice A n c,m,e] w fun x w'=>x=.returned (.int .i64 (Seam.upTo l m e))/\w=w':=by
 have hlen:=ints_len h
 obtain⟨HR,HL⟩:=J2 h hlen
 clear h hlen
 unfold maxLen at hn
 obtain⟨k0,hk0⟩:∃ k0:Nat,k0=(min m n).toNat:=⟨_,rfl⟩
 have hk0n:k0<=n:=by omega
 have hk0m:(k0:Int)=max (min m n) 0:=by omega
 obtain⟨HK0,HM⟩:=J2 hk0 hk0m
 clear hk0 hk0m
 go_enter func96,ntmps96
 go_upto_region 1 with fail
 go_cut [1] (fun s1 wx=>s1=.int .i64 k0/\w=wx)
 case first=>
  have hk0m:=HM.out
  go_wp2
  all_goals (go_meet;exact⟨by first|rfl|(congr 1;omega),rfl⟩)
 case rest=>
 obtain⟨rfl,rfl⟩:=hcut
 go_wp2
 go_loop [1] (fun i=>∃ k:Nat,k<=n/\i=.int .i64 k/\Seam.lastUp (Seam.upB l e) k=Seam.lastUp (Seam.upB l e) k0) (fun i=>(intOf i).toNat)
 case atStart=>exact⟨k0,hk0n,rfl,rfl⟩
 case round=>
  obtain⟨k,hk,rfl,hrl⟩:=hrel
  have hup:Seam.upTo l m e=Seam.lastUp (Seam.upB l e) k:=by
   unfold Seam.upTo
   rw [HL.out,<-HK0.out,hrl]
  obtain⟨HRL,HUP⟩:=J2 hrl hup
  clear hrl hup
  by_cases hz:k=0
  ·subst hz
   go_wp2
   go_ret
   exact⟨ret_int (by rw [HUP.out];rfl),rfl⟩
  ·obtain⟨j,rfl⟩:∃ j,k=j+1:=⟨k-1,by omega⟩
   obtain⟨ad,hA,hcell⟩:=int_at HR.out (show j<n by omega)
   obtain⟨x,hx⟩:∃ x,x=l.getD j 0:=⟨_,rfl⟩
   rw [<-hx] at hcell
   have HX:=J hx
   clear hx
   subst hA
   by_cases hxe:e<x
   ·go_wp2
    go_round
    case rel=>exact⟨j,by omega,rfl,by rw [<-HRL.out,Seam.lastUp_succ,if_neg (by rw [Seam.upB_iff,Nat.add_sub_cancel,<-HX.out];omega)]⟩
    case measure=>simp [intOf]
   ·go_wp2
    go_ret
    have hup:Seam.upTo l m e=j+1:=by rw [HUP.out,Seam.lastUp_succ,if_pos (by rw [Seam.upB_iff,Nat.add_sub_cancel,<-HX.out];omega)]
    exact⟨ret_int (by rw [hup];omega),rfl⟩
end
def spotV (n:Nat) (e:Int):Value:=.agg #[.int .i64 n,e]
section
variable (A:O) (n c:Nat) (l:List Int) (w:World) (h:Reads w w.heap.size 1 A n (intV .i64 l)) (hn:n<=maxLen)
include A n c l w h hn
theorem hint_any (after since:Int) (ha : -9223372036854775808<=after/\after<=9223372036854775807) :
 Calls prog 55 #[.slice A n c,after,since] w fun x w'=>x=.returned (spotV (Seam.hintN l after since) (Seam.ep l (Seam.hintN l after since)))/\Below w w w':=by
 have hlen:=ints_len h
 obtain⟨HR,HL,HN⟩:=J3 h hlen hn
 clear h hlen hn
 by_cases h0:after<=0
 ·have hz:Seam.hintN l after since=0:=by unfold Seam.hintN;rw [if_pos h0]
  rw [hz]
  go_enter func55,ntmps55
  exact Y102
 ·have hz:Seam.hintN l after since=Seam.upTo l (after-1) since:=by unfold Seam.hintN;rw [if_neg h0]
  rw [hz]
  obtain⟨K,hK⟩:∃ K,K=Seam.upTo l (after-1) since:=⟨_,rfl⟩
  have hKn:K<=n:=by rw [hK,<-HL.out];exact (Seam.upTo_le _ _ _).2
  rw [<-hK]
  have HU:∀ W,Below w w W->Calls prog 96 #[.slice A n c,.int .i64 (after-1),since] W fun x w'=>x=.returned (.int .i64 K)/\W=w':=fun W hW=>by
   rw [hK]
   exact upTo_any _ A n c l W (HR.out.below hW) HN.out (after-1) since (by omega)
  have HU':=J HU
  clear HU hK hz
  by_cases hk:K=0
  ·subst hk
   go_enter func55,ntmps55
   go_wp2_with fail
   refine (HU'.out _ ((Below.refl _ _).alloc (Nat.le_refl _) _)).mono ?_
   rintro x w1 ⟨rfl,rfl⟩
   exact Y102
  ·obtain⟨j,rfl⟩:∃ j,K=j+1:=⟨K-1,by omega⟩
   obtain⟨ad,hA,hcell⟩:=int_at HR.out (show j<n by omega)
   have hblk:=block_lt hcell
   rw [block_of_add] at hblk
   have hep:Seam.ep l (j+1)=l.getD j 0:=by unfold Seam.ep;rw [if_neg (by omega),Nat.add_sub_cancel]
   rw [hep]
   obtain⟨x,hx⟩:∃ x,x=l.getD j 0:=⟨_,rfl⟩
   rw [<-hx] at hcell ⊢
   clear hx hep
   subst hA
   have hc2:∀ o,(w.alloc o).cell? (ad.add j)=some (.int .i64 x):=fun o=>(World.cell?_alloc_lt w o _ (by rw [block_of_add];exact hblk)).trans hcell
   clear hcell
   have hn:=HN.out
   unfold maxLen at hn
   go_enter func55,ntmps55
   go_wp2_with fail
   refine (HU'.out _ ((Below.refl _ _).alloc (Nat.le_refl _) _)).mono ?_
   rintro x w1 ⟨rfl,rfl⟩
   go_wp2
   exact bodyPost_ret (v:=spotV (j+1) x) (by simp [results,results55,go_sem,spotV]) rfl ⟨rfl,((Below.refl _ _).alloc (Nat.le_refl _) _)⟩
theorem next_any (m e:Int) (hm : -9223372036854775808<=m/\m<=9223372036854775807) :
 Calls prog 79 #[.slice A n c,.agg #[m,e]] w fun x w'=>x=.returned (.int .i64 (Seam.upTo l m e))/\Below w w w':=by
 have HU:∀ W,Below w w W->Calls prog 96 #[.slice A n c,m,e] W fun x w'=>x=.returned (.int .i64 (Seam.upTo l m e))/\W=w':=fun W hW=>
  upTo_any _ A n c l W (h.below hW) hn m e hm
 have HU':=J HU
 clear HU h hn hm
 go_enter func79,ntmps79
 go_wp2_with fail
 refine (HU'.out _ ((Below.refl _ _).alloc (Nat.le_refl _) _)).mono ?_
 rintro x w1 ⟨rfl,rfl⟩
 go_wp2
 go_ret
 exact⟨rfl,((Below.refl _ _).alloc (Nat.le_refl _) _)⟩
end
section
variable {a b:Bool}
theorem ret_bool' (h:a=b):Ending.returned (.bool a)=.returned (.bool b):=by rw [h]
theorem within1 (lo hi x:Int) (g c:Nat) (t:TypeId) (w:World) (h:Blk w g t #[x]) :
 Calls prog 75 #[lo,hi,.slice (some ⟨g,0,none⟩) 1 c] w fun e w'=>e=.returned (.bool (decide (lo<=x)&&decide (x<=hi)))/\w=w':=by
 have hc:=h.c1 0
 clear h
 go_enter func75,ntmps75
 go_wp2_with fail
 go_loop [11] (fun i=>∃ k:Nat,k<=1/\i=.int .i64 k/\(k=1->lo<=x/\x<=hi)) (fun i=>1-(intOf i).toNat)
 case atStart=>exact⟨0,by omega,rfl,by omega⟩
 case round=>
  obtain⟨k,hk,rfl,hin⟩:=hrel
  rcases Nat.lt_or_ge k 1 with hk1|hk1
  ·obtain rfl:k=0:=by omega
   by_cases h1:x<lo
   ·go_wp2
    go_ret
    exact⟨congrArg (fun b=>Ending.returned (.bool b)) (by (have:¬ lo<=x:=by omega);simp [this]),rfl⟩
   ·by_cases h2:hi<x
    ·go_wp2
     go_ret
     exact⟨congrArg (fun b=>Ending.returned (.bool b)) (by (have:¬ x<=hi:=by omega);simp [this]),rfl⟩
    ·go_wp2
     go_round
     case rel=>exact⟨1,by omega,by go_num,fun _=>by omega⟩
     case measure=>simp [intOf]
  ·obtain rfl:k=1:=by omega
   obtain⟨h1,h2⟩:=hin rfl
   go_wp2
   go_ret
   exact⟨congrArg (fun b=>Ending.returned (.bool b)) (by rfl),rfl⟩
end
def placeB (n e:Int):Bool:=decide (0<=n)&&decide (n<=80)&&(decide (0<=e)&&decide (e<=16))&&((n==0)==(e==0))
theorem within_new (lo hi x:Int) (g:Nat) (t:TypeId) (W:World) (hg:g=W.heap.size) :
 Calls prog 75 #[lo,hi,.slice (some ⟨g,0,none⟩) 1 1] (W.alloc (.cells #[x] t)) fun e w'=>e=.returned (.bool (decide (lo<=x)&&decide (x<=hi)))/\W.alloc (.cells #[x] t)=w':=by
 subst hg
 exact within1 lo hi x _ 1 t _ (Blk.new W t _)
theorem place_any (n e:Int) (w:World) :
 Calls prog 105 #[.agg #[n,e]] w fun x w'=>x=.returned (.bool (placeB n e))/\Below w w w':=by
 obtain⟨b1,hb1⟩:∃ b1,b1=(decide (0<=n)&&decide (n<=80)):=⟨_,rfl⟩
 obtain⟨b2,hb2⟩:∃ b2,b2=(decide (0<=e)&&decide (e<=16)):=⟨_,rfl⟩
 have hp:placeB n e=(b1&&b2&&((n==0)==(e==0))):=by rw [hb1,hb2];rfl
 obtain⟨HP,H1,H2⟩:=J3 hp hb1 hb2
 clear hp hb1 hb2
 go_enter func105,ntmps105
 go_wp2_with fail
 refine (within_new 0 80 n _ _ _ (by simp)).mono ?_
 rintro x w1 ⟨rfl,rfl⟩
 rw [<-H1.out]
 cases b1 with
 | false=>
  go_wp2
  go_ret
  exact⟨ret_bool' (by rw [HP.out];rfl),((Below.refl _ _).alloc (Nat.le_refl _) _).alloc (by simp) _⟩
 | true=>
  go_wp2_with fail
  refine (within_new 0 16 e _ _ _ (by simp)).mono ?_
  rintro x w1 ⟨rfl,rfl⟩
  rw [<-H2.out]
  cases b2 with
  | false=>
   go_wp2
   go_ret
   exact⟨ret_bool' (by rw [HP.out];rfl),(((Below.refl _ _).alloc (Nat.le_refl _) _).alloc (by simp) _).alloc (by simp;omega) _⟩
  | true=>
   go_wp2
   go_ret
   exact⟨ret_bool' (by rw [HP.out];simp),(((Below.refl _ _).alloc (Nat.le_refl _) _).alloc (by simp) _).alloc (by simp;omega) _⟩
def riseB (up:Int):Int->List Int->Bool
 | _,[]=>true
 | last,n::l=>decide (last<n)&&decide (n<=up)&&riseB up n l
theorem rise_any (up:Int) (B:Nat) (A:O) (n c:Nat) (l:List Int) (w:World) (h:Reads w B 1 A n (intV .i64 l)) (hn:n<=maxLen) :
 Calls prog 106 #[up,.slice A n c] w fun e w'=>e=.returned (.bool (riseB up 0 l))/\w=w':=by
 have hlen:=ints_len h
 obtain⟨HR,HL⟩:=J2 h hlen
 clear h hlen
 unfold maxLen at hn
 go_enter func106,ntmps106
 go_wp2_with fail
 go_loop [5,10] (fun s i=>∃ (k:Nat) (m:Int),k<=n/\s=.int .i64 m/\i=.int .i64 k/\riseB up 0 l=riseB up m (l.drop k)) (fun _ i=>n-(intOf i).toNat)
 case atStart=>exact⟨0,0,by omega,rfl,rfl,rfl⟩
 case round=>
  obtain⟨k,m,hk,rfl,rfl,hrl⟩:=hrel
  have HRL:=J hrl
  clear hrl
  rcases Nat.lt_or_ge k n with hk1|hk1
  ·obtain⟨ad,hA,hcell⟩:=int_at HR.out hk1
   have hkl:k<l.length:=by rw [HL.out];exact hk1
   have hdr:l.drop k=l.getD k 0::l.drop (k+1):=by
    rw [List.drop_eq_getElem_cons hkl]
    simp [List.getD,hkl]
   obtain⟨x,hx⟩:∃ x,x=l.getD k 0:=⟨_,rfl⟩
   rw [<-hx] at hcell hdr
   have HDR:=J hdr
   clear hx hdr
   subst hA
   by_cases h1:x<=m
   ·go_wp2
    go_ret
    exact⟨ret_bool' (by rw [HRL.out,HDR.out];simp [riseB,show ¬ m<x by omega]),rfl⟩
   ·by_cases h2:up<x
    ·go_wp2
     go_ret
     exact⟨ret_bool' (by rw [HRL.out,HDR.out];simp [riseB,show ¬ x<=up by omega]),rfl⟩
    ·go_wp2
     go_round
     case rel=>exact⟨k+1,x,by omega,rfl,by go_num,by rw [HRL.out,HDR.out];simp [riseB,show m<x by omega,show x<=up by omega]⟩
     case measure=>simp [intOf];omega
  ·obtain rfl:n=k:=by omega
   have hdr:l.drop n=[]:=List.drop_of_length_le (by rw [HL.out];exact Nat.le_refl _)
   have HDR:=J hdr
   clear hdr
   go_wp2
   go_ret
   exact⟨ret_bool' (by rw [HRL.out,HDR.out];rfl),rfl⟩
@[reducible] def mailC (kind term index prev commit:Int) (good:Bool) (eA:O) (en ec:Nat) (data:ByteArray) (hA:O) (hn hc:Nat) (epoch site atN atE whN whE:Int) (oA:O) (on oc:Nat) (pA:O) (pn pc:Nat):Array Value:=
 #[kind,term,index,prev,commit,good,.slice eA en ec,.string data,.slice hA hn hc,epoch,site,atN,atE,whN,whE,.slice oA on oc,.slice pA pn pc]
@[reducible] def awAnswer:Array Value:=mailC 10 0 0 0 0 false none 0 0 ⟨#[]⟩ none 0 0 1 0 0 0 0 0 none 0 0 none 0 0
@[reducible] def awShip (pA:Addr) (pc:Nat):Array Value:=mailC 9 0 0 0 0 false none 0 0 ⟨#[]⟩ none 0 0 1 0 2 1 0 0 none 0 0 (some pA) 0 pc
theorem other10c (w:World):Calls prog 77 #[.agg awAnswer] w fun x w'=>x=.returned (.bool true)/\Below w w w':=by
 have hbk:∀ n o1 o2,Blk ((((w.alloc (.cells awAnswer 30)).drewN n).alloc o1).alloc o2) w.heap.size 30 awAnswer:=fun n o1 o2=>(((Blk.new w _ _).drewN n).alloc o1).alloc o2
 have hbl:∀ n o1 o2,Below w w ((((w.alloc (.cells awAnswer 30)).drewN n).alloc o1).alloc o2):=fun n o1 o2=>((below_drewN ((Below.refl _ _).alloc (Nat.le_refl _) _) n).alloc (by simp) _).alloc (by simp;omega) _
 obtain⟨HBK,HBL⟩:=J2 hbk hbl
 clear hbk hbl
 go_enter func77,ntmps77
 go_wp2_with fail
 go_quiet (fail)
 go_wp2_with fail
 refine (within_new 0 1 0 _ _ _ (by simp)).mono ?_
 rintro x w1 ⟨rfl,rfl⟩
 go_wp2_with fail
 refine (within_new 0 16 1 _ _ _ (by simp)).mono ?_
 rintro x w1 ⟨rfl,rfl⟩
 go_wp2_with fail
 have hk:=HBK.out nq (.cells #[.int .i64 0] 3) (.cells #[.int .i64 1] 3)
 have hl:=HBL.out nq (.cells #[.int .i64 0] 3) (.cells #[.int .i64 1] 3)
 refine (place_any 0 0 _).mono ?_
 rintro x w1 ⟨rfl,hb1⟩
 have hk1:=hk.below hb1 hk.lt
 have hl1:=hl.trans (hb1.mono hl.size)
 rw [show placeB 0 0=true by decide]
 obtain⟨c13,c14⟩:=hk1.cs 13 2
 obtain⟨HK1,HL1⟩:=J2 hk1 hl1
 clear hk hl hb1 hk1 hl1
 go_wp2_with fail
 refine (place_any 0 0 _).mono ?_
 rintro x w2 ⟨rfl,hb2⟩
 have hk2:=HK1.out.below hb2 HK1.out.lt
 have hl2:=HL1.out.trans (hb2.mono HL1.out.size)
 rw [show placeB 0 0=true by decide]
 clear c13 c14
 have c0:=hk2.c1 0
 have c5:=hk2.c1 5
 obtain⟨c9,c10⟩:=hk2.cs 9 2
 obtain⟨c13,c14,c15⟩:=hk2.cs 13 3
 have HL2:=J hl2
 clear hb2 hk2 hl2
 go_wp2_with fail
 refine (rise_any 0 w2.heap.size none 0 0 [] w2 Reads.none_ (by unfold maxLen;omega)).mono ?_
 rintro x w3 ⟨rfl,rfl⟩
 go_wp2
 go_ret
 exact⟨rfl,HL2.out⟩
theorem row0 (A:O) (c:Nat) (n e:Int) (hn:0<=n/\n<=80) (he:0<=e/\e<=16) (hne:(n==0)=(e==0)) (w:World):Calls prog 86 #[.agg #[n,e],.slice A 0 c] w fun x w'=>x=.returned (.bool true)/\Below w w w':=by
 obtain⟨n1,n2⟩:=hn
 obtain⟨e1,e2⟩:=he
 go_enter func86,ntmps86
 go_wp2_with fail
 go_loopw [5,38] (fun a i wr=>i=.int .i64 0/\Below w w wr) (fun _ _ _=>0)
 case atStart=>exact⟨rfl,(Below.refl _ _).alloc (Nat.le_refl _) _⟩
 case round=>
  obtain⟨rfl,hb⟩:=hrel
  have HB:=J hb
  clear hb
  exact Y78
theorem shipped_aw (pA:Addr) (pc:Nat) (w:World):Calls prog 107 #[.agg (awShip pA pc)] w fun x w'=>x=.returned (.bool true)/\Below w w w':=by
 have hbk:∀ o1,Blk ((w.alloc (.cells (awShip pA pc) 30)).alloc o1) w.heap.size 30 (awShip pA pc):=fun o1=>(Blk.new w _ _).alloc o1
 have hbl:∀ o1,Below w w ((w.alloc (.cells (awShip pA pc) 30)).alloc o1):=fun o1=>((Below.refl _ _).alloc (Nat.le_refl _) _).alloc (by simp) _
 obtain⟨HBK,HBL⟩:=J2 hbk hbl
 clear hbk hbl
 go_enter func107,ntmps107
 go_wp2_with fail
 refine (within_new 1 16 1 _ _ _ (by simp)).mono ?_
 rintro x w1 ⟨rfl,rfl⟩
 go_wp2_with fail
 have hk:=HBK.out (.cells #[.int .i64 1] 3)
 have hl:=HBL.out (.cells #[.int .i64 1] 3)
 refine (row0 _ _ 2 1 (by omega) (by omega) (by decide) _).mono ?_
 rintro x w1 ⟨rfl,hb1⟩
 have hk1:=hk.below hb1 hk.lt
 have hl1:=hl.trans (hb1.mono hl.size)
 have c9:=hk1.c1 9
 obtain⟨c11,c12⟩:=hk1.cs 11 2
 have c16:=hk1.c1 16
 have HL1:=J hl1
 clear hk hl hb1 hk1 hl1
 go_wp2_with fail
 go_loopw [3,34] (fun a i wr=>a=.bool true/\i=.int .i64 0/\Below w w wr) (fun _ _ _=>0)
 case atStart=>exact⟨rfl,rfl,HL1.out⟩
 case round=>
  obtain⟨rfl,rfl,hb⟩:=hrel
  have HB:=J hb
  clear hb
  exact Y78
theorem other9c (pA:Addr) (pc:Nat) (w:World):Calls prog 77 #[.agg (awShip pA pc)] w fun x w'=>x=.returned (.bool true)/\Below w w w':=by
 have hbk:∀ n o1 o2,Blk ((((w.alloc (.cells (awShip pA pc) 30)).drewN n).alloc o1).alloc o2) w.heap.size 30 (awShip pA pc):=fun n o1 o2=>(((Blk.new w _ _).drewN n).alloc o1).alloc o2
 have hbl:∀ n o1 o2,Below w w ((((w.alloc (.cells (awShip pA pc) 30)).drewN n).alloc o1).alloc o2):=fun n o1 o2=>((below_drewN ((Below.refl _ _).alloc (Nat.le_refl _) _) n).alloc (by simp) _).alloc (by simp;omega) _
 obtain⟨HBK,HBL⟩:=J2 hbk hbl
 clear hbk hbl
 go_enter func77,ntmps77
 go_wp2_with fail
 go_quiet (fail)
 go_wp2_with fail
 refine (within_new 0 1 0 _ _ _ (by simp)).mono ?_
 rintro x w1 ⟨rfl,rfl⟩
 go_wp2_with fail
 refine (within_new 0 16 1 _ _ _ (by simp)).mono ?_
 rintro x w1 ⟨rfl,rfl⟩
 go_wp2_with fail
 have hk:=HBK.out nq (.cells #[.int .i64 0] 3) (.cells #[.int .i64 1] 3)
 have hl:=HBL.out nq (.cells #[.int .i64 0] 3) (.cells #[.int .i64 1] 3)
 refine (place_any 2 1 _).mono ?_
 rintro x w1 ⟨rfl,hb1⟩
 have hk1:=hk.below hb1 hk.lt
 have hl1:=hl.trans (hb1.mono hl.size)
 rw [show placeB 2 1=true by decide]
 obtain⟨c13,c14⟩:=hk1.cs 13 2
 obtain⟨HK1,HL1⟩:=J2 hk1 hl1
 clear hk hl hb1 hk1 hl1
 go_wp2_with fail
 refine (place_any 0 0 _).mono ?_
 rintro x w2 ⟨rfl,hb2⟩
 have hk2:=HK1.out.below hb2 HK1.out.lt
 have hl2:=HL1.out.trans (hb2.mono HL1.out.size)
 rw [show placeB 0 0=true by decide]
 clear c13 c14
 have c0:=hk2.c1 0
 have c5:=hk2.c1 5
 obtain⟨c9,c10⟩:=hk2.cs 9 2
 obtain⟨c13,c14,c15⟩:=hk2.cs 13 3
 obtain⟨c1,c2,c3,c4⟩:=hk2.cs 1 4
 obtain⟨c6,c7,c8⟩:=hk2.cs 6 3
 obtain⟨c11,c12⟩:=hk2.cs 11 2
 have c16:=hk2.c1 16
 have HL2:=J hl2
 clear hb2 hk2 hl2
 go_wp2_with fail
 refine (shipped_aw pA pc w2).mono ?_
 rintro x w3 ⟨rfl,hb3⟩
 have HB3:=J (HL2.out.trans (hb3.mono HL2.out.size))
 clear hb3
 go_wp2
 go_ret
 exact⟨rfl,HB3.out⟩
end Go.Proofs.Ytaipgdhdfpemcaa
