/- THE WALKS OF THE LANE, part 5. -/
import Derived.Test.YtaipgdhdfpemcaaG1
namespace Go.Proofs.Ytaipgdhdfpemcaa
set_option linter.all false
open Go.RowKit
set_option maxRecDepth 100000
set_option maxHeartbeats 4000000
namespace Seam
def lastUp (p:Nat->Bool):Nat->Nat
 | 0=>0
 | k+1=>if p (k+1) then k+1 else lastUp p k
section
variable (p:Nat->Bool) (k:Nat)
include p k
theorem lastUp_succ:lastUp p (k+1)=if p (k+1) then k+1 else lastUp p k:=rfl
theorem lastUp_le:lastUp p k<=k:=by
 induction k with
 | zero=>exact Nat.le_refl _
 | succ k ih=>
  unfold lastUp
  split
  ·exact Nat.le_refl _
  ·omega
theorem lastUp_holds (h:0<lastUp p k):p (lastUp p k)=true:=by
 induction k with
 | zero=>exact absurd h (by simp [lastUp])
 | succ k ih=>
  unfold lastUp at h ⊢
  split at h
  ·rename_i hp
   rw [if_pos hp]
   exact hp
  ·rename_i hp
   rw [if_neg hp]
   exact ih h
theorem lastUp_ge (j:Nat) (hj:j<=k) (hp:0<j->p j=true):j<=lastUp p k:=by
 induction k with
 | zero=>omega
 | succ k ih=>
  unfold lastUp
  by_cases hjk:j=k+1
  ·subst hjk
   rw [if_pos (hp (by omega))]
   exact Nat.le_refl _
  ·split
   ·omega
   ·exact ih (by omega)
end
theorem lastUp_congr (p q:Nat->Bool) (k:Nat) (h:∀ j,1<=j->j<=k->p j=q j):lastUp p k=lastUp q k:=by
 induction k with
 | zero=>rfl
 | succ k ih=>
  unfold lastUp
  rw [h (k+1) (by omega) (Nat.le_refl _),ih fun j h1 h2=>h j h1 (by omega)]
theorem lastUp_min (p q:Nat->Bool) (m n:Nat) (hm:m<=n) (h:∀ j,1<=j->j<=m->p j=q j) (h0:∀ j,m<j->j<=n->p j=false):lastUp p n=lastUp q m:=by
 induction n with
 | zero=>
  obtain rfl:m=0:=by omega
  rfl
 | succ n ih=>
  by_cases hmn:m=n+1
  ·subst hmn
   exact lastUp_congr p q _ h
  ·rw [lastUp_succ,h0 (n+1) (by omega) (Nat.le_refl _)]
   simp only [Bool.false_eq_true,if_false]
   exact ih (by omega) fun j h1 h2=>h0 j h1 (by omega)
def upB (l:List Int) (e:Int) (j:Nat):Bool:=decide (l.getD (j-1) 0<=e)
def upTo (l:List Int) (m e:Int):Nat:=lastUp (upB l e) (min m l.length).toNat
def ep (l:List Int) (k:Nat):Int:=if k=0 then 0 else l.getD (k-1) 0
def hintN (l:List Int) (after since:Int):Nat:=if after<=0 then 0 else upTo l (after-1) since
def refHintB (l:List Int) (after since:Int) (j:Nat):Bool:=decide ((j:Int)<after)&&upB l since j
theorem hint_eq (l:List Int) (after since:Int):lastUp (refHintB l after since) l.length=hintN l after since:=by
 unfold hintN upTo
 by_cases h0:after<=0
 ·rw [if_pos h0]
  exact lastUp_min _ (fun _=>false) 0 _ (Nat.zero_le _) (fun j h1 h2=>absurd h1 (by omega)) fun j _ _=>by
   have:¬ (j:Int)<after:=by omega
   simp [refHintB,this]
 ·rw [if_neg h0]
  exact lastUp_min _ _ _ _ (by omega) (fun j h1 h2=>by
   have:(j:Int)<after:=by omega
   simp [refHintB,this]) fun j h1 h2=>by
   have:¬ (j:Int)<after:=by omega
   simp [refHintB,this]
def refNextB (l:List Int) (n e:Int) (j:Nat):Bool:=decide ((j:Int)<=n)&&upB l e j
theorem next_eq (l:List Int) (n e:Int):lastUp (refNextB l n e) l.length=upTo l n e:=by
 unfold upTo
 exact lastUp_min _ _ _ _ (by omega) (fun j h1 h2=>by
  have:(j:Int)<=n:=by omega
  simp [refNextB,this]) fun j h1 h2=>by
  have:¬ (j:Int)<=n:=by omega
  simp [refNextB,this]
/-! ### where two lists part -/
def atB (a b:List Int) (j:Nat):Bool:=decide (j<=a.length)&&decide (j<=b.length)&&(b.getD (j-1) 0==a.getD (j-1) 0)
def common (a b:List Int):Nat:=lastUp (atB a b) a.length
def Rising (l:List Int):Prop:=∀ i j,i<=j->j<l.length->l.getD i 0<=l.getD j 0
theorem upB_iff (l:List Int) (e:Int) (j:Nat):upB l e j=true↔l.getD (j-1) 0<=e:=by simp [upB]
section
variable (l:List Int) (m e:Int)
include l m e
theorem upTo_le:(upTo l m e:Int)<=max m 0/\upTo l m e<=l.length:=by
 have:=lastUp_le (upB l e) (min m l.length).toNat
 unfold upTo
 omega
theorem upTo_holds (h:0<upTo l m e):l.getD (upTo l m e-1) 0<=e:=(upB_iff _ _ _).1 (lastUp_holds _ _ h)
theorem upTo_ge (j:Nat) (h1:(j:Int)<=m) (h2:j<=l.length) (h3:0<j->l.getD (j-1) 0<=e):j<=upTo l m e:=
 lastUp_ge _ _ _ (by omega) fun h=>(upB_iff _ _ _).2 (h3 h)
end
def nextOf (mine other:List Int) (n:Nat):Nat:=
 upTo mine (hintN other n (mine.getD (n-1) 0)) (ep other (hintN other n (mine.getD (n-1) 0)))
theorem hintN_lt (other:List Int) (n:Nat) (s:Int) (hn:0<n):hintN other n s<n/\hintN other n s<=other.length:=by
 unfold hintN
 rw [if_neg (by omega)]
 have:=upTo_le other ((n:Int)-1) s
 omega
theorem nextOf_lt (mine other:List Int) (n:Nat) (hn:0<n):nextOf mine other n<n:=by
 have h1:=hintN_lt other n (mine.getD (n-1) 0) hn
 have h2:=upTo_le mine (hintN other n (mine.getD (n-1) 0)) (ep other (hintN other n (mine.getD (n-1) 0)))
 unfold nextOf
 omega
theorem never (mine other:List Int) (hm:Rising mine) (ho:Rising other) (n j:Nat) (hj:1<=j) (hjn:j<n) (hn:n<=mine.length) (hjo:j<=other.length) (he:other.getD (j-1) 0=mine.getD (j-1) 0):j<=nextOf mine other n:=by
 have h1:j<=hintN other n (mine.getD (n-1) 0):=by
  unfold hintN
  rw [if_neg (by omega)]
  refine upTo_ge _ _ _ _ (by omega) hjo fun _=>?_
  rw [he]
  exact hm _ _ (by omega) (by omega)
 obtain⟨h,hh⟩:∃ h,h=hintN other n (mine.getD (n-1) 0):=⟨_,rfl⟩
 have h2:=hintN_lt other n (mine.getD (n-1) 0) (by omega)
 unfold nextOf
 rw [<-hh] at h1 h2 ⊢
 refine upTo_ge _ _ _ _ (by omega) (by omega) fun _=>?_
 rw [<-he]
 unfold ep
 rw [if_neg (by omega)]
 exact ho _ _ (by omega) (by omega)
def runs (l:List Int):Nat->Nat
 | 0=>0
 | k+1=>if k=0\/l.getD k 0≠l.getD (k-1) 0 then runs l k+1 else runs l k
section
variable (l:List Int)
include l
theorem runs_succ (k:Nat):runs l (k+1)=if k=0\/l.getD k 0≠l.getD (k-1) 0 then runs l k+1 else runs l k:=rfl
theorem runs_mono (i j:Nat) (h:i<=j):runs l i<=runs l j:=by
 induction j with
 | zero=>
  obtain rfl:i=0:=by omega
  exact Nat.le_refl _
 | succ j ih=>
  by_cases hij:i=j+1
  ·subst hij
   exact Nat.le_refl _
  ·have:=ih (by omega)
   rw [runs_succ]
   split<;>omega
theorem runs_pos (k:Nat) (h:0<k):0<runs l k:=by
 have h1:runs l 1=1:=by simp [runs]
 have:=runs_mono l 1 k h
 omega
theorem runs_lt (i j:Nat) (hi:1<=i) (hij:i<=j) (h:l.getD (i-1) 0≠l.getD (j-1) 0):runs l i<runs l j:=by
 induction j with
 | zero=>omega
 | succ j ih=>
  have hne:i≠j+1:=fun e=>h (by rw [e])
  have hij':i<=j:=by omega
  by_cases he:l.getD j 0=l.getD (j-1) 0
  ·have h':l.getD (i-1) 0≠l.getD (j-1) 0:=fun e=>h (e.trans (by simpa using he.symm))
   have:=ih hij' h'
   have h0:¬ (j=0\/l.getD j 0≠l.getD (j-1) 0):=by
    rintro (h0|h0)
    ·omega
    ·exact h0 he
   rw [runs_succ,if_neg h0]
   exact this
  ·have:=runs_mono l i j hij'
   rw [runs_succ,if_pos (Or.inr he)]
   omega
end
def stopB (mine other:List Int) (n:Nat):Bool:=decide (n=0)||(decide (n<=other.length)&&(other.getD (n-1) 0==mine.getD (n-1) 0))
section
variable (a b:List Int)
include a b
theorem common_ge (n:Nat) (hn:n<=a.length) (h:stopB a b n=true):n<=common a b:=by
 refine lastUp_ge _ _ _ hn fun h0=>?_
 have h1:¬ n=0:=by omega
 simp only [stopB,h1,decide_false,Bool.false_or,Bool.and_eq_true,decide_eq_true_eq] at h
 simp only [atB,Bool.and_eq_true,decide_eq_true_eq]
 exact⟨⟨hn,h.1⟩,h.2⟩
theorem common_at (h:0<common a b):common a b<=b.length/\b.getD (common a b-1) 0=a.getD (common a b-1) 0:=by
 have:=lastUp_holds _ _ h
 simp only [atB,Bool.and_eq_true,decide_eq_true_eq,beq_iff_eq] at this
 exact⟨this.1.2,this.2⟩
theorem common_le:common a b<=a.length:=lastUp_le _ _
end
theorem look (mine other:List Int) (hm:Rising mine) (ho:Rising other) (n:Nat) (hn:n<=mine.length) (hs:stopB mine other n=false) (hc:common mine other<=n) :
 nextOf mine other n<n/\common mine other<=nextOf mine other n/\(runs mine (nextOf mine other n)<runs mine n\/stopB mine other (nextOf mine other n)=true):=by
 have hn0:0<n:=by
  rcases Nat.eq_zero_or_pos n with h|h
  ·subst h;simp [stopB] at hs
  ·exact h
 refine⟨nextOf_lt _ _ _ hn0,?_,?_⟩
 ·rcases Nat.eq_zero_or_pos (common mine other) with h0|h0
  ·omega
  ·obtain⟨h1,h2⟩:=common_at mine other h0
   have hne:common mine other≠n:=by
    intro e
    rw [<-e] at hs
    have h3:¬ common mine other=0:=by omega
    simp [stopB,h1] at hs
    exact hs.2 (by simpa using h2)
   exact never mine other hm ho n _ h0 (by omega) hn h1 h2
 ·have hl:=nextOf_lt mine other n hn0
  rcases Nat.eq_zero_or_pos (nextOf mine other n) with h0|h0
  ·right
   rw [h0]
   simp [stopB]
  ·obtain⟨h,hh⟩:∃ h,h=hintN other n (mine.getD (n-1) 0):=⟨_,rfl⟩
   have h2:=hintN_lt other n (mine.getD (n-1) 0) hn0
   obtain⟨q,hq⟩:∃ q,q=nextOf mine other n:=⟨_,rfl⟩
   have hqe:q=upTo mine h (ep other h):=by rw [hq,hh];rfl
   rw [<-hq] at h0 hl ⊢
   rw [<-hh] at h2
   have hqh:q<=h:=by
    have:=(upTo_le mine h (ep other h)).1
    rw [<-hqe] at this
    omega
   have hhe:other.getD (h-1) 0<=mine.getD (n-1) 0:=by
    have hpos:0<upTo other ((n:Int)-1) (mine.getD (n-1) 0):=by
     have:hintN other n (mine.getD (n-1) 0)=upTo other ((n:Int)-1) (mine.getD (n-1) 0):=by
      unfold hintN;rw [if_neg (by omega)]
     rw [<-this,<-hh];omega
    have:=upTo_holds _ _ _ hpos
    have e:h=upTo other ((n:Int)-1) (mine.getD (n-1) 0):=by
     rw [hh];unfold hintN;rw [if_neg (by omega)]
    rw [e];exact this
   have hqm:mine.getD (q-1) 0<=ep other h:=by
    have:=upTo_holds mine h (ep other h) (by rw [<-hqe];exact h0)
    rw [<-hqe] at this
    exact this
   have hep:ep other h=other.getD (h-1) 0:=by unfold ep;rw [if_neg (by omega)]
   by_cases he:mine.getD (q-1) 0=mine.getD (n-1) 0
   ·right
    have e1:other.getD (h-1) 0=mine.getD (n-1) 0:=by omega
    have e2:mine.getD (h-1) 0=mine.getD (n-1) 0:=by
     have a1:=hm (q-1) (h-1) (by omega) (by omega)
     have a2:=hm (h-1) (n-1) (by omega) (by omega)
     omega
    have e3:h<=q:=by
     rw [hqe]
     refine upTo_ge _ _ _ _ (Int.le_refl _) (by omega) fun _=>?_
     omega
    have e4:q=h:=by omega
    have hq0:¬ q=0:=by omega
    simp only [stopB,hq0,decide_false,Bool.false_or,Bool.and_eq_true,decide_eq_true_eq,beq_iff_eq]
    rw [e4]
    exact⟨h2.2,by omega⟩
   ·left
    exact runs_lt mine q n h0 (by omega) he
end Seam
end Go.Proofs.Ytaipgdhdfpemcaa
