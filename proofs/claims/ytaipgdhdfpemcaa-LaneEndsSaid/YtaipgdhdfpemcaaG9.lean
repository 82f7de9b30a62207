/- THE WALKS OF THE LANE, part 9. -/
import Derived.Test.YtaipgdhdfpemcaaG6
namespace Go.Proofs.Ytaipgdhdfpemcaa
set_option linter.all false
open Go.RowKit Go.Proofs.Try
set_option maxRecDepth 100000
set_option maxHeartbeats 4000000
def Save (g:Nat) (w w':World):Prop:=∀ b,b<w.heap.size->b≠g->w'.heap[b]? = w.heap[b]?
section
variable {p:Addr} {cs:Array Value} {b g:Nat} {t:TypeId} {a c w w' w'':World}
section
variable (h:Save g w w')
include h
theorem Save.blk (hb:Blk w b t cs) (hne:b≠g):Blk w' b t cs:=(h b hb.lt hne).trans hb
theorem Save.below (hs:w.heap.size<=w') (hb:Below w'.heap.size w' w''):Save g w w'':=fun b h1 h2=>(hb.block b (by omega)).trans (h b h1 h2)
theorem Save.set (hp:w.heap.size<=p.block) (u:Value):Save g w (w'.setCell p u):=fun b h1 h2=>(Below.heap_setCell _ p u b (by omega)).trans (h b h1 h2)
end
theorem Save.of (h:Below w w w'):Save g w w':=fun b h1 _=>h.block b h1
theorem Save.trans {b:World} (h:Save g a b) (hs:a.heap.size<=b) (h':Save g b c):Save g a c:=fun x h1 h2=>(h' x (by omega) h2).trans (h x h1 h2)
end
def putCells (W:World) (rb:Nat):Nat->List Value->World
 | _,[]=>W
 | i,x::l=>putCells (W.setCell ⟨rb,i,none⟩ x) rb (i+1) l
section
variable {cs:Array Value} {l:List Value} {B rb:Nat} {t:TypeId} {W:World}
theorem putCells_below (hB:B<=rb) (l:List Value):∀ (w W:World) (i:Nat),Below B w W->Below B w (putCells W rb i l):=by
 induction l with
 | nil=>intro w W i h;exact h
 | cons x l ih=>intro w W i h;exact ih w _ (i+1) (h.setCell (p:=⟨rb,i,none⟩) hB x)
theorem setCell_size (W:World) (p:Addr) (x:Value):(W.setCell p x).heap.size=W.heap.size:=by simp
theorem putCells_size (rb:Nat) (l:List Value):∀ (W:World) (i:Nat),(putCells W rb i l).heap.size=W.heap.size:=by
 induction l with
 | nil=>intro W i;rfl
 | cons x l ih=>intro W i;exact (ih _ (i+1)).trans (setCell_size W _ x)
theorem putCells_save (rb:Nat) (l:List Value):∀ (W:World) (i:Nat),Save rb W (putCells W rb i l):=by
 induction l with
 | nil=>intro W i b _ _;rfl
 | cons x l ih=>
  intro W i b h1 h2
  exact (ih (W.setCell ⟨rb,i,none⟩ x) (i+1) b (by rw [setCell_size];exact h1) h2).trans (Below.heap_setCell W ⟨rb,i,none⟩ x b h2)
theorem putCells_blk' (rb:Nat) (t:TypeId) (l:List Value):∀ (W:World) (i:Nat) (cs:Array Value),Blk W rb t cs->i+l.length<=cs.size->
 ∃ cs',Blk (putCells W rb i l) rb t cs'/\cs'.size=cs.size/\(∀ j,j<i->cs'[j]? = cs[j]?)/\(∀ j,j<l.length->cs'[i+j]? = l[j]?)/\(∀ j,i+l.length<=j->cs'[j]? = cs[j]?):=by
 induction l with
 | nil=>intro W i cs h _;exact⟨cs,h,rfl,fun _ _=>rfl,fun j hj=>absurd hj (by simp),fun _ _=>rfl⟩
 | cons x l ih=>
  intro W i cs h hs
  simp only [List.length_cons] at hs
  obtain⟨cs',h1,h2,h3,h4,h5⟩:=ih (W.setCell ⟨rb,i,none⟩ x) (i+1) (cs.setIfInBounds i x) (h.set_ i x) (by rw [Array.size_setIfInBounds];omega)
  refine⟨cs',h1,by rw [h2,Array.size_setIfInBounds],fun j hj=>?_,fun j hj=>?_,fun j hj=>?_⟩
  ·rw [h3 j (by omega),Array.getElem?_setIfInBounds_ne (by omega)]
  ·rcases j with _|j
   ·rw [Nat.add_zero,h3 i (by omega),Array.getElem?_setIfInBounds_self_of_lt (by omega)];rfl
   ·have:=h4 j (by simpa using hj)
    rw [show i+(j+1)=i+1+j by omega,this];rfl
  ·simp only [List.length_cons] at hj
   rw [h5 j (by omega),Array.getElem?_setIfInBounds_ne (by omega)]
theorem putCells_blk (h:Blk W rb t cs) (hs:cs.size=l.length):Blk (putCells W rb 0 l) rb t l.toArray:=by
 obtain⟨cs',h1,h2,_,h4,_⟩:=putCells_blk' rb t l W 0 cs h (by omega)
 have e:cs'=l.toArray:=by
  apply Array.ext_getElem?
  intro j
  rcases Nat.lt_or_ge j l.length with hj|hj
  ·have:=h4 j hj
   rw [Nat.zero_add] at this
   rw [this];simp
  ·rw [Array.getElem?_eq_none (by omega),Array.getElem?_eq_none (by simpa using hj)]
 rw [<-e]
 exact h1
end
theorem field_ops (kind term index prev commit:Int) (good:Bool) (eA:O) (en ec:Nat) (data:ByteArray) (hA:O) (hn hc:Nat) (epoch site atN atE whN whE:Int) (oA:O) (on oc:Nat) (pA:O) (pn pc:Nat) (w:World) :
 (Instr.field 30 (.agg (mailC kind term index prev commit good eA en ec data hA hn hc epoch site atN atE whN whE oA on oc pA pn pc)) 14).run prog w=.ok (.slice pA pn pc) w:=by
 kernel_rfl
end Go.Proofs.Ytaipgdhdfpemcaa
