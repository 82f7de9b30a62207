/- THE WALKS OF THE LANE, part 3. -/
import Derived.Test.YtaipgdhdfpemcaaRows
import Derived.Test.YtaipgdhdfpemcaaF2
namespace Go.Proofs.Ytaipgdhdfpemcaa
set_option linter.all false
open Go.RowKit Go.Proofs.Try
set_option maxRecDepth 100000
set_option maxHeartbeats 4000000
namespace Seam
def lastUp (p:Nat->Bool):Nat->Nat
 | 0=>0
 | k+1=>if p (k+1) then k+1 else lastUp p k
section
variable (p:Nat->Bool) (k:Nat)
include p k
theorem lastUp_succ:lastUp p (k+1)=if p (k+1) then k+1 else lastUp p k:=rfl
theorem lastUp_le:lastUp p k<=k:=by
 induction k with
 | zero=>exact Nat.le_refl _
 | succ k ih=>
  unfold lastUp
  split
  ·exact Nat.le_refl _
  ·omega
theorem lastUp_holds (h:0<lastUp p k):p (lastUp p k)=true:=by
 induction k with
 | zero=>exact absurd h (by simp [lastUp])
 | succ k ih=>
  unfold lastUp at h ⊢
  split at h
  ·rename_i hp
   rw [if_pos hp]
   exact hp
  ·rename_i hp
   rw [if_neg hp]
   exact ih h
theorem lastUp_ge (j:Nat) (hj:j<=k) (hp:0<j->p j=true):j<=lastUp p k:=by
 induction k with
 | zero=>omega
 | succ k ih=>
  unfold lastUp
  by_cases hjk:j=k+1
  ·subst hjk
   rw [if_pos (hp (by omega))]
   exact Nat.le_refl _
  ·split
   ·omega
   ·exact ih (by omega)
end
theorem lastUp_congr (p q:Nat->Bool) (k:Nat) (h:∀ j,1<=j->j<=k->p j=q j):lastUp p k=lastUp q k:=by
 induction k with
 | zero=>rfl
 | succ k ih=>
  unfold lastUp
  rw [h (k+1) (by omega) (Nat.le_refl _),ih fun j h1 h2=>h j h1 (by omega)]
theorem lastUp_min (p q:Nat->Bool) (m n:Nat) (hm:m<=n) (h:∀ j,1<=j->j<=m->p j=q j) (h0:∀ j,m<j->j<=n->p j=false):lastUp p n=lastUp q m:=by
 induction n with
 | zero=>
  obtain rfl:m=0:=by omega
  rfl
 | succ n ih=>
  by_cases hmn:m=n+1
  ·subst hmn
   exact lastUp_congr p q _ h
  ·rw [lastUp_succ,h0 (n+1) (by omega) (Nat.le_refl _)]
   simp only [Bool.false_eq_true,if_false]
   exact ih (by omega) fun j h1 h2=>h0 j h1 (by omega)
def upB (l:List Int) (e:Int) (j:Nat):Bool:=decide (l.getD (j-1) 0<=e)
def upTo (l:List Int) (m e:Int):Nat:=lastUp (upB l e) (min m l.length).toNat
def ep (l:List Int) (k:Nat):Int:=if k=0 then 0 else l.getD (k-1) 0
def hintN (l:List Int) (after since:Int):Nat:=if after<=0 then 0 else upTo l (after-1) since
def refHintB (l:List Int) (after since:Int) (j:Nat):Bool:=decide ((j:Int)<after)&&upB l since j
theorem hint_eq (l:List Int) (after since:Int):lastUp (refHintB l after since) l.length=hintN l after since:=by
 unfold hintN upTo
 by_cases h0:after<=0
 ·rw [if_pos h0]
  exact lastUp_min _ (fun _=>false) 0 _ (Nat.zero_le _) (fun j h1 h2=>absurd h1 (by omega)) fun j _ _=>by
   have:¬ (j:Int)<after:=by omega
   simp [refHintB,this]
 ·rw [if_neg h0]
  exact lastUp_min _ _ _ _ (by omega) (fun j h1 h2=>by
   have:(j:Int)<after:=by omega
   simp [refHintB,this]) fun j h1 h2=>by
   have:¬ (j:Int)<after:=by omega
   simp [refHintB,this]
/-! ### where two lists part -/
def atB (a b:List Int) (j:Nat):Bool:=decide (j<=a.length)&&decide (j<=b.length)&&(b.getD (j-1) 0==a.getD (j-1) 0)
def common (a b:List Int):Nat:=lastUp (atB a b) a.length
def Rising (l:List Int):Prop:=∀ i j,i<=j->j<l.length->l.getD i 0<=l.getD j 0
theorem upB_iff (l:List Int) (e:Int) (j:Nat):upB l e j=true↔l.getD (j-1) 0<=e:=by simp [upB]
section
variable (l:List Int) (m e:Int)
include l m e
theorem upTo_le:(upTo l m e:Int)<=max m 0/\upTo l m e<=l.length:=by
 have:=lastUp_le (upB l e) (min m l.length).toNat
 unfold upTo
 omega
theorem upTo_holds (h:0<upTo l m e):l.getD (upTo l m e-1) 0<=e:=(upB_iff _ _ _).1 (lastUp_holds _ _ h)
theorem upTo_ge (j:Nat) (h1:(j:Int)<=m) (h2:j<=l.length) (h3:0<j->l.getD (j-1) 0<=e):j<=upTo l m e:=
 lastUp_ge _ _ _ (by omega) fun h=>(upB_iff _ _ _).2 (h3 h)
end
def nextOf (mine other:List Int) (n:Nat):Nat:=
 upTo mine (hintN other n (mine.getD (n-1) 0)) (ep other (hintN other n (mine.getD (n-1) 0)))
theorem hintN_lt (other:List Int) (n:Nat) (s:Int) (hn:0<n):hintN other n s<n/\hintN other n s<=other.length:=by
 unfold hintN
 rw [if_neg (by omega)]
 have:=upTo_le other ((n:Int)-1) s
 omega
theorem nextOf_lt (mine other:List Int) (n:Nat) (hn:0<n):nextOf mine other n<n:=by
 have h1:=hintN_lt other n (mine.getD (n-1) 0) hn
 have h2:=upTo_le mine (hintN other n (mine.getD (n-1) 0)) (ep other (hintN other n (mine.getD (n-1) 0)))
 unfold nextOf
 omega
theorem never (mine other:List Int) (hm:Rising mine) (ho:Rising other) (n j:Nat) (hj:1<=j) (hjn:j<n) (hn:n<=mine.length) (hjo:j<=other.length) (he:other.getD (j-1) 0=mine.getD (j-1) 0):j<=nextOf mine other n:=by
 have h1:j<=hintN other n (mine.getD (n-1) 0):=by
  unfold hintN
  rw [if_neg (by omega)]
  refine upTo_ge _ _ _ _ (by omega) hjo fun _=>?_
  rw [he]
  exact hm _ _ (by omega) (by omega)
 obtain⟨h,hh⟩:∃ h,h=hintN other n (mine.getD (n-1) 0):=⟨_,rfl⟩
 have h2:=hintN_lt other n (mine.getD (n-1) 0) (by omega)
 unfold nextOf
 rw [<-hh] at h1 h2 ⊢
 refine upTo_ge _ _ _ _ (by omega) (by omega) fun _=>?_
 rw [<-he]
 unfold ep
 rw [if_neg (by omega)]
 exact ho _ _ (by omega) (by omega)
def runs (l:List Int):Nat->Nat
 | 0=>0
 | k+1=>if k=0\/l.getD k 0≠l.getD (k-1) 0 then runs l k+1 else runs l k
theorem runs_succ (l:List Int) (k:Nat):runs l (k+1)=if k=0\/l.getD k 0≠l.getD (k-1) 0 then runs l k+1 else runs l k:=rfl
theorem runs_mono (l:List Int) (i j:Nat) (h:i<=j):runs l i<=runs l j:=by
 induction j with
 | zero=>
  obtain rfl:i=0:=by omega
  exact Nat.le_refl _
 | succ j ih=>
  by_cases hij:i=j+1
  ·subst hij
   exact Nat.le_refl _
  ·have:=ih (by omega)
   rw [runs_succ]
   split<;>omega
theorem runs_lt (l:List Int) (i j:Nat) (hi:1<=i) (hij:i<=j) (h:l.getD (i-1) 0≠l.getD (j-1) 0):runs l i<runs l j:=by
 induction j with
 | zero=>omega
 | succ j ih=>
  have hne:i≠j+1:=fun e=>h (by rw [e])
  have hij':i<=j:=by omega
  by_cases he:l.getD j 0=l.getD (j-1) 0
  ·have h':l.getD (i-1) 0≠l.getD (j-1) 0:=fun e=>h (e.trans (by simpa using he.symm))
   have:=ih hij' h'
   have h0:¬ (j=0\/l.getD j 0≠l.getD (j-1) 0):=by
    rintro (h0|h0)
    ·omega
    ·exact h0 he
   rw [runs_succ,if_neg h0]
   exact this
  ·have:=runs_mono l i j hij'
   rw [runs_succ,if_pos (Or.inr he)]
   omega
def stopB (mine other:List Int) (n:Nat):Bool:=decide (n=0)||(decide (n<=other.length)&&(other.getD (n-1) 0==mine.getD (n-1) 0))
theorem common_at (a b:List Int) (h:0<common a b):common a b<=b.length/\b.getD (common a b-1) 0=a.getD (common a b-1) 0:=by
 have:=lastUp_holds _ _ h
 simp only [atB,Bool.and_eq_true,decide_eq_true_eq,beq_iff_eq] at this
 exact⟨this.1.2,this.2⟩
theorem look (mine other:List Int) (hm:Rising mine) (ho:Rising other) (n:Nat) (hn:n<=mine.length) (hs:stopB mine other n=false) (hc:common mine other<=n) :
 nextOf mine other n<n/\common mine other<=nextOf mine other n/\(runs mine (nextOf mine other n)<runs mine n\/stopB mine other (nextOf mine other n)=true):=by
 have hn0:0<n:=by
  rcases Nat.eq_zero_or_pos n with h|h
  ·subst h;simp [stopB] at hs
  ·exact h
 refine⟨nextOf_lt _ _ _ hn0,?_,?_⟩
 ·rcases Nat.eq_zero_or_pos (common mine other) with h0|h0
  ·omega
  ·obtain⟨h1,h2⟩:=common_at mine other h0
   have hne:common mine other≠n:=by
    intro e
    rw [<-e] at hs
    have h3:¬ common mine other=0:=by omega
    simp [stopB,h1] at hs
    exact hs.2 (by simpa using h2)
   exact never mine other hm ho n _ h0 (by omega) hn h1 h2
 ·have hl:=nextOf_lt mine other n hn0
  rcases Nat.eq_zero_or_pos (nextOf mine other n) with h0|h0
  ·right
   rw [h0]
   simp [stopB]
  ·obtain⟨h,hh⟩:∃ h,h=hintN other n (mine.getD (n-1) 0):=⟨_,rfl⟩
   have h2:=hintN_lt other n (mine.getD (n-1) 0) hn0
   obtain⟨q,hq⟩:∃ q,q=nextOf mine other n:=⟨_,rfl⟩
   have hqe:q=upTo mine h (ep other h):=by rw [hq,hh];rfl
   rw [<-hq] at h0 hl ⊢
   rw [<-hh] at h2
   have hqh:q<=h:=by
    have:=(upTo_le mine h (ep other h)).1
    rw [<-hqe] at this
    omega
   have hhe:other.getD (h-1) 0<=mine.getD (n-1) 0:=by
    have hpos:0<upTo other ((n:Int)-1) (mine.getD (n-1) 0):=by
     have:hintN other n (mine.getD (n-1) 0)=upTo other ((n:Int)-1) (mine.getD (n-1) 0):=by
      unfold hintN;rw [if_neg (by omega)]
     rw [<-this,<-hh];omega
    have:=upTo_holds _ _ _ hpos
    have e:h=upTo other ((n:Int)-1) (mine.getD (n-1) 0):=by
     rw [hh];unfold hintN;rw [if_neg (by omega)]
    rw [e];exact this
   have hqm:mine.getD (q-1) 0<=ep other h:=by
    have:=upTo_holds mine h (ep other h) (by rw [<-hqe];exact h0)
    rw [<-hqe] at this
    exact this
   have hep:ep other h=other.getD (h-1) 0:=by unfold ep;rw [if_neg (by omega)]
   by_cases he:mine.getD (q-1) 0=mine.getD (n-1) 0
   ·right
    have e1:other.getD (h-1) 0=mine.getD (n-1) 0:=by omega
    have e2:mine.getD (h-1) 0=mine.getD (n-1) 0:=by
     have a1:=hm (q-1) (h-1) (by omega) (by omega)
     have a2:=hm (h-1) (n-1) (by omega) (by omega)
     omega
    have e3:h<=q:=by
     rw [hqe]
     refine upTo_ge _ _ _ _ (Int.le_refl _) (by omega) fun _=>?_
     omega
    have e4:q=h:=by omega
    have hq0:¬ q=0:=by omega
    simp only [stopB,hq0,decide_false,Bool.false_or,Bool.and_eq_true,decide_eq_true_eq,beq_iff_eq]
    rw [e4]
    exact⟨h2.2,by omega⟩
   ·left
    exact runs_lt mine q n h0 (by omega) he
end Seam
section
variable {l:List Int} {B k n:Nat} {A:O} {w:World}
section
variable (h:Reads w B 1 A n (intV .i64 l))
include h
theorem int_at (hk:k<n):∃ ad,A=some ad/\w.cell? (ad.add k)=some (.int .i64 (l.getD k 0)):=by
 obtain⟨ad,u,hA,_,hu,hc⟩:=h.at_ hk
 have hl:k<l.length:=by have:=h.1;simp [intV] at this;omega
 rw [intV_at .i64 l k hl] at hu
 injection hu with hu
 refine⟨ad,hA,?_⟩
 rw [hc,<-hu]
 simp [List.getD,hl]
theorem ints_len:l.length=n:=by
 have:=h.1
 simpa [intV] using this
end
theorem Try.infoInt:(prog.info? 3).map (fun i=>(i.zero,i.size,i.bytes))=some (some (.int .i64 0),1,8):=by kernel_rfl
theorem intV_one (l:List Int):∀ u∈intV .i64 l,u.oneCell'=true:=by
 intro u hu
 simp only [intV,List.mem_map] at hu
 obtain⟨s,_,rfl⟩:=hu
 rfl
theorem upTo_any (B:Nat) (A:O) (n c:Nat) (l:List Int) (w:World) (h:Reads w B 1 A n (intV .i64 l)) (hn:n<=maxLen) (m e:Int) (hm : -9223372036854775808<=m/\m<=9223372036854775807) :
 Calls prog 96 #[.slice A n c,m,e] w fun x w'=>x=.returned (.int .i64 (Seam.upTo l m e))/\w=w':=by
 have hlen:=ints_len h
 obtain⟨HR,HL⟩:=J2 h hlen
 clear h hlen
 unfold maxLen at hn
 obtain⟨k0,hk0⟩:∃ k0:Nat,k0=(min m n).toNat:=⟨_,rfl⟩
 have hk0n:k0<=n:=by omega
 have hk0m:(k0:Int)=max (min m n) 0:=by omega
 obtain⟨HK0,HM⟩:=J2 hk0 hk0m
 clear hk0 hk0m
 go_enter func96,ntmps96
 go_upto_region 1 with fail
 go_cut [1] (fun s1 wx=>s1=.int .i64 k0/\w=wx)
 case first=>
  have hk0m:=HM.out
  go_wp2
  all_goals (go_meet;exact⟨by first|rfl|(congr 1;omega),rfl⟩)
 case rest=>
 obtain⟨rfl,rfl⟩:=hcut
 go_wp2
 go_loop [1] (fun i=>∃ k:Nat,k<=n/\i=.int .i64 k/\Seam.lastUp (Seam.upB l e) k=Seam.lastUp (Seam.upB l e) k0) (fun i=>(intOf i).toNat)
 case atStart=>exact⟨k0,hk0n,rfl,rfl⟩
 case round=>
  obtain⟨k,hk,rfl,hrl⟩:=hrel
  have hup:Seam.upTo l m e=Seam.lastUp (Seam.upB l e) k:=by
   unfold Seam.upTo
   rw [HL.out,<-HK0.out,hrl]
  obtain⟨HRL,HUP⟩:=J2 hrl hup
  clear hrl hup
  by_cases hz:k=0
  ·subst hz
   go_wp2
   go_ret
   exact⟨ret_int (by rw [HUP.out];rfl),rfl⟩
  ·obtain⟨j,rfl⟩:∃ j,k=j+1:=⟨k-1,by omega⟩
   obtain⟨ad,hA,hcell⟩:=int_at HR.out (show j<n by omega)
   obtain⟨x,hx⟩:∃ x,x=l.getD j 0:=⟨_,rfl⟩
   rw [<-hx] at hcell
   have HX:=J hx
   clear hx
   subst hA
   by_cases hxe:e<x
   ·go_wp2
    go_round
    case rel=>exact⟨j,by omega,rfl,by rw [<-HRL.out,Seam.lastUp_succ,if_neg (by rw [Seam.upB_iff,Nat.add_sub_cancel,<-HX.out];omega)]⟩
    case measure=>simp [intOf]
   ·go_wp2
    go_ret
    have hup:Seam.upTo l m e=j+1:=by rw [HUP.out,Seam.lastUp_succ,if_pos (by rw [Seam.upB_iff,Nat.add_sub_cancel,<-HX.out];omega)]
    exact⟨ret_int (by rw [hup];omega),rfl⟩
end
def spotV (n:Nat) (e:Int):Value:=.agg #[.int .i64 n,e]
section
variable (A:O) (n c:Nat) (l:List Int) (w:World) (h:Reads w w.heap.size 1 A n (intV .i64 l))
include A n c l w h
theorem hint_any (hn:n<=maxLen) (after since:Int) (ha : -9223372036854775808<=after/\after<=9223372036854775807) :
 Calls prog 55 #[.slice A n c,after,since] w fun x w'=>x=.returned (spotV (Seam.hintN l after since) (Seam.ep l (Seam.hintN l after since)))/\Below w w w':=by
 have hlen:=ints_len h
 obtain⟨HR,HL,HN⟩:=J3 h hlen hn
 clear h hlen hn
 by_cases h0:after<=0
 ·have hz:Seam.hintN l after since=0:=by unfold Seam.hintN;rw [if_pos h0]
  rw [hz]
  go_enter func55,ntmps55
  exact Y148
 ·have hz:Seam.hintN l after since=Seam.upTo l (after-1) since:=by unfold Seam.hintN;rw [if_neg h0]
  rw [hz]
  obtain⟨K,hK⟩:∃ K,K=Seam.upTo l (after-1) since:=⟨_,rfl⟩
  have hKn:K<=n:=by rw [hK,<-HL.out];exact (Seam.upTo_le _ _ _).2
  rw [<-hK]
  have HU:∀ W,Below w w W->Calls prog 96 #[.slice A n c,.int .i64 (after-1),since] W fun x w'=>x=.returned (.int .i64 K)/\W=w':=fun W hW=>by
   rw [hK]
   exact upTo_any _ A n c l W (HR.out.below hW) HN.out (after-1) since (by omega)
  have HU':=J HU
  clear HU hK hz
  by_cases hk:K=0
  ·subst hk
   go_enter func55,ntmps55
   go_wp2_with fail
   refine (HU'.out _ ((Below.refl _ _).alloc (Nat.le_refl _) _)).mono ?_
   rintro x w1 ⟨rfl,rfl⟩
   exact Y148
  ·obtain⟨j,rfl⟩:∃ j,K=j+1:=⟨K-1,by omega⟩
   obtain⟨ad,hA,hcell⟩:=int_at HR.out (show j<n by omega)
   have hblk:=block_lt hcell
   rw [block_of_add] at hblk
   have hep:Seam.ep l (j+1)=l.getD j 0:=by unfold Seam.ep;rw [if_neg (by omega),Nat.add_sub_cancel]
   rw [hep]
   obtain⟨x,hx⟩:∃ x,x=l.getD j 0:=⟨_,rfl⟩
   rw [<-hx] at hcell ⊢
   clear hx hep
   subst hA
   have hc2:∀ o,(w.alloc o).cell? (ad.add j)=some (.int .i64 x):=fun o=>(World.cell?_alloc_lt w o _ (by rw [block_of_add];exact hblk)).trans hcell
   clear hcell
   have hn:=HN.out
   unfold maxLen at hn
   go_enter func55,ntmps55
   go_wp2_with fail
   refine (HU'.out _ ((Below.refl _ _).alloc (Nat.le_refl _) _)).mono ?_
   rintro x w1 ⟨rfl,rfl⟩
   go_wp2
   exact bodyPost_ret (v:=spotV (j+1) x) (by simp [results,results55,go_sem,spotV]) rfl ⟨rfl,((Below.refl _ _).alloc (Nat.le_refl _) _)⟩
theorem next_any (hn:n<=maxLen) (m e:Int) (hm : -9223372036854775808<=m/\m<=9223372036854775807) :
 Calls prog 79 #[.slice A n c,.agg #[m,e]] w fun x w'=>x=.returned (.int .i64 (Seam.upTo l m e))/\Below w w w':=by
 have HU:∀ W,Below w w W->Calls prog 96 #[.slice A n c,m,e] W fun x w'=>x=.returned (.int .i64 (Seam.upTo l m e))/\W=w':=fun W hW=>
  upTo_any _ A n c l W (h.below hW) hn m e hm
 have HU':=J HU
 clear HU h hn hm
 go_enter func79,ntmps79
 go_wp2_with fail
 refine (HU'.out _ ((Below.refl _ _).alloc (Nat.le_refl _) _)).mono ?_
 rintro x w1 ⟨rfl,rfl⟩
 go_wp2
 go_ret
 exact⟨rfl,((Below.refl _ _).alloc (Nat.le_refl _) _)⟩
theorem refHint_any (hn:n<=4294967296) (after since:Int) :
 Calls prog 66 #[.slice A n c,after,since] w fun x w'=>x=.returned (spotV (Seam.hintN l after since) (Seam.ep l (Seam.hintN l after since)))/\Below w w w':=by
 rw [<-Seam.hint_eq]
 have hlen:=ints_len h
 obtain⟨HR,HL⟩:=J2 h hlen
 clear h hlen
 go_enter func66,ntmps66
 go_wp2
 go_loopw [8] (fun i wr=>∃ k:Nat,k<=n/\i=.int .i64 ((k:Int)+1)/\Blk wr (w.heap.size+1) 26 #[.int .i64 (Seam.lastUp (Seam.refHintB l after since) k),.int .i64 (Seam.ep l (Seam.lastUp (Seam.refHintB l after since) k))]/\Blk wr w 26 #[.int .i64 0,.int .i64 0]/\Below w w wr) (fun i _=>n+1-(intOf i).toNat)
 case atStart=>
  refine⟨0,Nat.zero_le _,rfl,?_,(Blk.new w _ _).alloc _,((Below.refl _ _).alloc (Nat.le_refl _) _).alloc (by simp) _⟩
  have h:=Blk.new (w.alloc (.cells #[.int .i64 0,.int .i64 0] 26)) 26 #[.int .i64 0,.int .i64 0]
  simpa [Seam.lastUp,Seam.ep] using h
 case round=>
  obtain⟨k,hk,rfl,hb1,hb0,hbw⟩:=hrel
  have c10:=hb1.cell 0
  have c11:=hb1.cell 1
  have c00:=hb0.cell 0
  have c01:=hb0.cell 1
  have f10:=hb1.frozen
  have f00:=hb0.frozen
  obtain⟨K,hK⟩:∃ K,K=Seam.lastUp (Seam.refHintB l after since) k:=⟨_,rfl⟩
  obtain⟨E,hE⟩:∃ E,E=Seam.ep l K:=⟨_,rfl⟩
  rw [<-hK,<-hE] at hb1 c10 c11
  obtain⟨HK,HE,HB1,HB0⟩:=J4 hK hE hb1 hb0
  clear hK hE hb1 hb0
  simp at c10 c11 c00 c01
  by_cases hlt:k<n
  ·obtain⟨ad,hA,hcell⟩:=int_at (HR.out.below hbw) hlt
   obtain⟨x,hx⟩:∃ x,x=l.getD k 0:=⟨_,rfl⟩
   rw [<-hx] at hcell
   have HX:=J hx
   clear hx
   subst hA
   have hsucc:=Seam.lastUp_succ (Seam.refHintB l after since) k
   have hB:Seam.refHintB l after since (k+1)=(decide ((k:Int)+1<after)&&decide (x<=since)):=by
    rw [HX.out]
    simp [Seam.refHintB,Seam.upB]
   obtain⟨HS,HB⟩:=J2 hsucc hB
   clear hsucc hB
   by_cases h1:(k:Int)+1<after
   ·have d1:decide ((k:Int)+1<after)=true:=by simpa using h1
    by_cases h2:x<=since
    ·have d2:decide (x<=since)=true:=by simpa using h2
     have hr:Seam.lastUp (Seam.refHintB l after since) (k+1)=k+1:=by rw [HS.out,HB.out,d1,d2];rfl
     have HRR:=J hr
     clear hr
     go_wp2
     go_roundw
     case rel=>
      refine⟨k+1,by omega,by go_num,?_,HB0.out.far (by simp) _ |>.far (by simp) _,(hbw.setCell (by simp) _).setCell (by simp) _⟩
      rw [HRR.out]
      have he:Seam.ep l (k+1)=x:=by rw [HX.out];simp [Seam.ep]
      rw [he]
      have h:=(HB1.out.set_ 0 (.int .i64 ((k:Int)+1))).set_ 1 (.int .i64 x)
      simpa using h
     case measure=>simp [intOf];omega
    ·have d2:decide (x<=since)=false:=by simpa using h2
     have hr:Seam.lastUp (Seam.refHintB l after since) (k+1)=K:=by rw [HS.out,HB.out,d1,d2,HK.out];rfl
     exact Y100
   ·have d1:decide ((k:Int)+1<after)=false:=by simpa using h1
    have hr:Seam.lastUp (Seam.refHintB l after since) (k+1)=K:=by rw [HS.out,HB.out,d1,HK.out];rfl
    exact Y100
  ·obtain rfl:k=n:=by omega
   go_wp2
   rw [HL.out,<-HK.out,<-HE.out]
   exact bodyPost_ret (v:=spotV K E) (by simp [results,results66,go_sem,spotV,c00,c01]) rfl ⟨rfl,(hbw.setCell (by simp) _).setCell (by simp) _⟩
end
end Go.Proofs.Ytaipgdhdfpemcaa
