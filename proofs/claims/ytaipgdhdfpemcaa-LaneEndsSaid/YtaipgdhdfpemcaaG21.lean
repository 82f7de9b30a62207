/- THE WALKS OF THE LANE, part 21. -/
import Derived.Test.YtaipgdhdfpemcaaG17
import Derived.Test.YtaipgdhdfpemcaaG18
import Derived.Test.YtaipgdhdfpemcaaG20
namespace Go.Proofs.Ytaipgdhdfpemcaa
set_option linter.all false
open Go.RowKit Go.Proofs.Try
set_option maxRecDepth 100000
set_option maxHeartbeats 4000000
section
variable {name:ByteArray} {client epoch kind n seq site size x:Int} {hs:List ByteArray} {o:OpC}
theorem i64_le (h1 : -2000000000000<=x) (h2:x<=2000000000000):I64 x:=⟨by omega,by omega⟩
theorem fits_of (h1:0<=n/\n<=80) (h2:0<=epoch/\epoch<=16) (h3:0<=kind/\kind<=3) (h4:0<=site/\site<=2) (h5:0<=client/\client<=8) (h6:0<=seq/\seq<=1099511627776) (h7:name.size<=16) (h8:0<=size/\size<=512) (h9:hs.length<=100):Fits ⟨n,epoch,kind,site,client,seq,name,size,hs⟩:=
 ⟨⟨i64_le (x:=n) (by omega) (by omega),i64_le (x:=epoch) (by omega) (by omega),i64_le (x:=kind) (by omega) (by omega),i64_le (x:=site) (by omega) (by omega),i64_le (x:=client) (by omega) (by omega),i64_le (x:=seq) (by omega) (by omega),Nat.le_trans h7 (by omega),i64_le (x:=size) (by omega) (by omega),show hs.length*16<=140737488351232 by omega⟩,Nat.le_trans h7 (by unfold maxLen;omega),h8⟩
theorem opB_fits (h:opB o=true):Fits o:=by
 obtain⟨n,epoch,kind,site,client,seq,name,size,hs⟩:=o
 unfold opB headB reignB kindB at h
 simp only [Bool.and_eq_true,decide_eq_true_eq] at h
 obtain⟨⟨h1,h2,h3,h4,h5,h6⟩,h7⟩:=h
 by_cases k1:kind=1
 ·rw [if_pos k1] at h7
  unfold ownB sheetB at h7
  simp only [Bool.and_eq_true,decide_eq_true_eq,beq_iff_eq] at h7
  obtain⟨⟨a1,a2,a3,a4,a5,a6⟩,⟨b1,b2,b3⟩,-⟩:=h7
  exact Y131
 rw [if_neg k1] at h7
 by_cases k2:kind=2
 ·rw [if_pos k2] at h7
  unfold ownB bareB at h7
  simp only [Bool.and_eq_true,decide_eq_true_eq] at h7
  obtain⟨⟨a1,a2,a3,a4,a5,a6⟩,b1,b2⟩:=h7
  exact Y131
 rw [if_neg k2] at h7
 by_cases k3:kind=3
 ·rw [if_pos k3] at h7
  unfold blankB bareB at h7
  simp only [Bool.and_eq_true,decide_eq_true_eq] at h7
  obtain⟨a1,a2,a3,b1,b2⟩:=h7
  exact fits_of (by omega) (by omega) (by omega) (by omega) (by omega) (by omega) (by omega) (by omega) (by omega)
 ·rw [if_neg k3] at h7
  cases h7
end
def Rows (os:List OpC):Prop:=∀ (i:Nat) (o:OpC),os[i]? = some o->o.n=i+1/\opB o=true
section
variable {os:List OpC} {o:OpC}
theorem Rows.nil_:Rows []:=fun i o h=>by simp at h
section
variable (h:Rows os)
include h
theorem Rows.len:os.length<=80:=by
 rcases Nat.eq_zero_or_pos os.length with h0|h0
 ·omega
 ·have:=h (os.length-1) _ (List.getElem?_eq_getElem (by omega))
  have:=opB_n this.2
  omega
theorem Rows.fits:∀ o∈os,Fits o:=fun o ho=>by
 obtain⟨i,hi⟩:=List.getElem?_of_mem ho
 exact opB_fits (h i o hi).2
theorem Rows.ok:∀ o∈os,o.Ok:=fun o ho=>(h.fits o ho).ok
theorem Rows.snoc (hn:o.n=os.length+1) (ho:opB o=true):Rows (os++[o]):=by
 intro i x hx
 rcases Nat.lt_or_ge i os.length with hi|hi
 ·rw [List.getElem?_append_left hi] at hx
  exact h i x hx
 ·rw [List.getElem?_append_right hi] at hx
  rcases Nat.eq_zero_or_pos (i-os.length) with h0|h0
  ·rw [h0] at hx
   simp at hx
   subst hx
   exact⟨by omega,ho⟩
  ·rw [List.getElem?_eq_none (by simp;omega)] at hx
   cases hx
theorem Rows.take (n:Nat):Rows (os.take n):=by
 intro i x hx
 rw [List.getElem?_take] at hx
 split at hx
 ·exact h i x hx
 ·cases hx
end
theorem rowFrom_rows:∀ {l os:List OpC} {E st:Int},Rows os->rowFrom os.length E st l=true->Rows (os++l)
 | [],os,E,st,h,_=>by rw [List.append_nil];exact h
 | o::l,os,E,st,h,hr=>by
  unfold rowFrom at hr
  simp only [Bool.and_eq_true,decide_eq_true_eq] at hr
  obtain⟨h1,h2,h3,h4⟩:=hr
  have h5:=h.snoc h2 h1
  have e:(o.n:Int)=((os++[o]).length:Nat):=by simp;omega
  rw [e] at h4
  have:=rowFrom_rows h5 h4
  rwa [List.append_assoc] at this
end
def hadN (os:List OpC):List OpC->Nat
 | []=>0
 | o::l=>if hasL os o.n o.epoch then hadN os l+1 else 0
theorem hadN_le (os:List OpC):∀ l,hadN os l<=l.length
 | []=>Nat.le_refl _
 | o::l=>by
  unfold hadN
  have:=hadN_le os l
  split<;>simp<;>omega
theorem hadN_has (os:List OpC):∀ (l:List OpC) (i:Nat) (o:OpC),l[i]? = some o->i<hadN os l->hasL os o.n o.epoch=true
 | [],i,o,h,_=>by simp at h
 | x::l,i,o,h,hi=>by
  unfold hadN at hi
  split at hi
  ·rename_i hx
   cases i with
   | zero=>
    simp at h
    subst h
    exact hx
   | succ i=>exact hadN_has os l i o (by simpa using h) (by omega)
  ·omega
theorem hadN_not (os:List OpC):∀ (l:List OpC) (o:OpC),l[hadN os l]? = some o->hasL os o.n o.epoch=false
 | [],o,h=>by simp at h
 | x::l,o,h=>by
  unfold hadN at h
  split at h
  ·exact hadN_not os l o (by simpa using h)
  ·rename_i hx
   simp at h
   subst h
   simpa using hx
theorem hadN_step (os:List OpC):∀ (l:List OpC) (k:Nat),(∀ (i:Nat) (o:OpC),l[i]? = some o->i<k->hasL os o.n o.epoch=true)->k<=l.length->k<=hadN os l
 | [],k,_,hk=>by simp at hk;omega
 | x::l,0,_,_=>Nat.zero_le _
 | x::l,k+1,h,hk=>by
  unfold hadN
  have h0:=h 0 x rfl (by omega)
  rw [if_pos h0]
  have:=hadN_step os l k (fun i o hi hik=>h (i+1) o (by simpa using hi) (by omega)) (by simpa using hk)
  omega
section
variable {E N:Int} {l ops os:List OpC} {k:Nat} {o:OpC}
theorem hadN_stop (os:List OpC) (h:∀ (i:Nat) (o:OpC),l[i]? = some o->i<k->hasL os o.n o.epoch=true) (hk:l[k]? = some o) (hn:hasL os o.n o.epoch=false):hadN os l=k:=by
 obtain⟨hkl,-⟩:=List.getElem?_eq_some_iff.1 hk
 have h1:=hadN_step os l k h (by omega)
 rcases Nat.lt_or_ge k (hadN os l) with h2|h2
 ·have:=hadN_has os l k o hk h2
  rw [this] at hn
  cases hn
 ·omega
theorem hadN_all (os:List OpC) (h:∀ (i:Nat) (o:OpC),l[i]? = some o->hasL os o.n o.epoch=true):hadN os l=l.length:=by
 have h1:=hadN_step os l l.length (fun i o hi _=>h i o hi) (Nat.le_refl _)
 have:=hadN_le os l
 omega
theorem hasL_bound (h:hasL os N E=true):N<=os.length:=by
 unfold hasL at h
 simp only [Bool.or_eq_true,Bool.and_eq_true,decide_eq_true_eq] at h
 omega
theorem rowFrom_at:∀ {l:List OpC} {N E st:Int} {k:Nat} {o:OpC},rowFrom N E st l=true->l[k]? = some o->o.n=N+k+1/\opB o=true
 | [],N,E,st,k,o,_,h=>by simp at h
 | x::l,N,E,st,k,o,hr,h=>by
  unfold rowFrom at hr
  simp only [Bool.and_eq_true,decide_eq_true_eq] at hr
  cases k with
  | zero=>
   simp at h
   subst h
   exact⟨by omega,hr.1⟩
  | succ k=>
   have:=rowFrom_at hr.2.2.2 (by simpa using h)
   exact⟨by omega,this.2⟩
theorem rowFrom_drop:∀ {l:List OpC} {N E st:Int} (k:Nat),rowFrom N E st l=true->k<=l.length->∃ E' st',rowFrom (N+k) E' st' (l.drop k)=true
 | l,N,E,st,0,hr,_=>⟨E,st,by simpa using hr⟩
 | [],N,E,st,k+1,_,hk=>by simp at hk
 | x::l,N,E,st,k+1,hr,hk=>by
  unfold rowFrom at hr
  simp only [Bool.and_eq_true,decide_eq_true_eq] at hr
  obtain⟨E',st',h⟩:=rowFrom_drop k hr.2.2.2 (by simpa using hk)
  refine⟨E',st',?_⟩
  have e:N+((k+1:Nat):Int)=x.n+k:=by omega
  rw [e]
  simpa using h
theorem ship_at (hrow:rowB N E ops=true) (hhas:hasL os N E=true) (ho:ops[hadN os ops]? = some o) :
 o.n=N+hadN os ops+1/\0<=N+hadN os ops/\N+hadN os ops<=os.length/\(¬ o.kind=3->1<=N+hadN os ops)/\opB o=true:=by
 unfold rowB rowHead at hrow
 simp only [Bool.and_eq_true,decide_eq_true_eq] at hrow
 obtain⟨⟨h1,h2,h3,h4,h5⟩,h6⟩:=hrow
 obtain⟨a1,a2⟩:=rowFrom_at h6 ho
 obtain⟨hkl,-⟩:=List.getElem?_eq_some_iff.1 ho
 have hb:=hasL_bound hhas
 rcases Nat.eq_zero_or_pos (hadN os ops) with h0|h0
 ·refine⟨a1,by omega,by omega,fun hk=>?_,a2⟩
  rw [h0] at ho
  cases ops with
  | nil=>simp at ho
  | cons x l=>
   simp at ho
   subst ho
   unfold rowFrom stepB at h6
   simp only [if_neg hk,Bool.and_eq_true,decide_eq_true_eq] at h6
   have:=opB_n a2
   omega
 ·obtain⟨p,hp⟩:∃ p,ops[hadN os ops-1]? = some p:=⟨_,List.getElem?_eq_getElem (by omega)⟩
  have b1:=hadN_has os ops _ p hp (by omega)
  have b2:=hasL_bound b1
  have b3:=(rowFrom_at h6 hp).1
  exact⟨a1,by omega,by omega,fun _=>by omega,a2⟩
theorem ship_rows (hos:Rows os) (hrow:rowB N E ops=true) (hhas:hasL os N E=true) (ho:ops[hadN os ops]? = some o) :
 Rows (os.take (o.n-1).toNat++ops.drop (hadN os ops)):=by
 obtain⟨h1,h2,h3,h4,h5⟩:=ship_at hrow hhas ho
 unfold rowB at hrow
 simp only [Bool.and_eq_true] at hrow
 obtain⟨E',st',hd⟩:=rowFrom_drop (hadN os ops) hrow.2 (hadN_le os ops)
 have e:N+(hadN os ops:Int)=((os.take (o.n-1).toNat).length:Nat):=by rw [List.length_take];omega
 rw [e] at hd
 exact rowFrom_rows (hos.take _) hd
end
def newOp (os:List OpC) (o:OpC) (epoch site:Int):OpC:={o with n:=os.length+1,epoch:=epoch,site:=site}
def reignOp:OpC:=⟨0,0,3,0,0,0,⟨#[]⟩,0,[]⟩
def doesB (os:List OpC) (fence:Int) (c:CmdC):Bool:=
 decide (c.epoch=fence)&&(decide (holderC os=(c.epoch,c.site))&&((match clientC os c.op.client with
  | some was=>decide (was.seq<c.op.seq)
  | none=>true)&&(!(decide (c.op.kind=1)&&(liveC os c.op.name).isSome)&&(!(decide (c.op.kind=1)&&decide (65536<usedF os+c.op.size))&&(!(decide (c.op.kind=2)&&!(liveC os c.op.name).isSome)&&decide (os.length<64))))))
def shipsB (os:List OpC) (fence:Int) (c:CmdC):Bool:=!(decide (c.epoch<fence)||(decide (c.epoch=(holderC os).1)&&!decide (c.site=(holderC os).2)))
def siteL (os:List OpC) (i:Int):Int:=match os[i.toNat]? with
 | some o=>o.site
 | none=>0
def shipOs (os:List OpC) (c:CmdC):List OpC:=
 if hasL os c.after c.since then (match c.ops[hadN os c.ops]? with
  | some o=>if ¬ o.kind=3/\¬ siteL os (o.n-2)=o.site then os else os.take (o.n-1).toNat++c.ops.drop (hadN os c.ops)
  | none=>os) else os
def stepC (os:List OpC) (fence:Int) (c:CmdC):List OpC×Int:=
 if cmdB c=false then (os,fence)
 else if c.kind=1 then (if doesB os fence c then os++[newOp os c.op c.epoch c.site] else os,fence)
 else if c.kind=3 then (if shipsB os fence c then (shipOs os c,c.epoch) else (os,fence))
 else if c.kind=4 then (if c.epoch<=fence then (os,fence) else if 80<=os.length then (os,fence) else (os++[newOp os reignOp c.epoch c.site],c.epoch))
 else (os,fence)
section
variable {c:CmdC} {fence n:Int} {os:List OpC} {o:OpC}
section
variable (h:cmdB c=true)
include h
theorem cmdB_ship (hk:c.kind=3):rowB c.after c.since c.ops=true/\1<=c.epoch/\c.epoch<=16/\0<=c.site/\c.site<2/\c.ops.length<=8:=by
 unfold cmdB at h
 rw [if_neg (by omega),if_neg (by omega),if_neg (by omega),if_pos hk] at h
 unfold reignB at h
 simp only [Bool.and_eq_true,decide_eq_true_eq] at h
 exact⟨h.1.2.2.2.2.2,h.1.2.2.1.1,h.1.2.2.1.2.1,h.1.2.2.1.2.2.1,h.1.2.2.1.2.2.2,h.1.2.2.2.1⟩
theorem cmdB_mark (hk:c.kind=5):1<=c.after/\c.after<=80:=by
 unfold cmdB at h
 rw [if_neg (by omega),if_neg (by omega),if_neg (by omega),if_neg (by omega),if_neg (by omega),if_pos hk] at h
 simp only [Bool.and_eq_true,decide_eq_true_eq] at h
 exact⟨h.2.2.2.2.1,h.2.2.2.2.2.1⟩
theorem cmdB_reign (hk:c.kind=4):1<=c.epoch/\c.epoch<=16/\0<=c.site/\c.site<2:=by
 unfold cmdB at h
 rw [if_neg (by omega),if_neg (by omega),if_neg (by omega),if_neg (by omega),if_pos hk] at h
 unfold reignB at h
 simp only [Bool.and_eq_true,decide_eq_true_eq] at h
 exact h.2.2.2
theorem cmdB_do (hk:c.kind=1):opB ⟨1,c.epoch,c.op.kind,c.site,c.op.client,c.op.seq,c.op.name,c.op.size,c.op.hs⟩=true/\¬ c.op.kind=3:=by
 unfold cmdB at h
 rw [if_neg (by omega),if_pos hk] at h
 simp only [Bool.and_eq_true,decide_eq_true_eq,Bool.not_eq_true',decide_eq_false_iff_not] at h
 exact⟨h.2.2.2,h.1.2.2.2⟩
end
theorem opB_at (h:opB o=true) (h1:1<=n) (h2:n<=80):opB {o with n:=n}=true:=by
 unfold opB headB at h ⊢
 simp only [Bool.and_eq_true,decide_eq_true_eq] at h ⊢
 exact⟨⟨h1,h2,h.1.2.2⟩,h.2⟩
theorem newOp_do (h:cmdB c=true) (hk:c.kind=1) (hl:os.length<64):opB (newOp os c.op c.epoch c.site)=true:=
 opB_at (cmdB_do h hk).1 (by omega) (by omega)
theorem newOp_reign (h:cmdB c=true) (hk:c.kind=4) (hl:os.length<80):opB (newOp os reignOp c.epoch c.site)=true:=by
 obtain⟨h1,h2,h3,h4⟩:=cmdB_reign h hk
 have e:opB ⟨1,c.epoch,3,c.site,0,0,⟨#[]⟩,0,[]⟩=true:=by
  have e1:headB 1 c.epoch c.site=true:=by
   unfold headB reignB
   rw [decide_eq_true h1,decide_eq_true h2,decide_eq_true h3,decide_eq_true h4]
   rfl
  unfold opB
  rw [e1]
  rfl
 exact opB_at e (by omega) (by omega)
theorem stepC_rows (h:Rows os):Rows (stepC os fence c).1:=by
 unfold stepC
 by_cases hc:cmdB c=false
 ·rw [if_pos hc]
  exact h
 rw [if_neg hc]
 have hc:cmdB c=true:=by simpa using hc
 by_cases k1:c.kind=1
 ·rw [if_pos k1]
  by_cases hd:doesB os fence c=true
  ·simp only [if_pos hd]
   have hl:os.length<64:=by
    unfold doesB at hd
    simp only [Bool.and_eq_true,decide_eq_true_eq] at hd
    exact hd.2.2.2.2.2.2
   exact h.snoc rfl (newOp_do hc k1 hl)
  ·simp only [if_neg hd]
   exact h
 rw [if_neg k1]
 by_cases k3:c.kind=3
 ·rw [if_pos k3]
  by_cases hs:shipsB os fence c=true
  ·rw [if_pos hs]
   unfold shipOs
   by_cases hh:hasL os c.after c.since=true
   ·rw [if_pos hh]
    cases ho:c.ops[hadN os c.ops]? with
    | none=>exact h
    | some o=>
     dsimp only
     split
     ·exact h
     ·exact ship_rows h (cmdB_ship hc k3).1 hh ho
   ·rw [if_neg hh]
    exact h
  ·rw [if_neg hs]
   exact h
 rw [if_neg k3]
 by_cases k4:c.kind=4
 ·rw [if_pos k4]
  split
  ·exact h
  ·split
   ·exact h
   ·exact h.snoc rfl (newOp_reign hc k4 (by omega))
 ·rw [if_neg k4]
  exact h
end
section
variable {w w':World} {B:Nat} {X:Nat->Prop} {g m1 m2:Nat} {fo fo' os:List OpC} {pA:O} {pn pc:Nat} {lA:O} {ln lc:Nat} {fence settled fence' settled':Int}
theorem Led.refold (h:Led w B X g m1 m2 fo os pA pn pc lA ln lc fence settled) (hs:w.heap.size<=w') (hk:∀ b,b<w.heap.size->b≠g->b≠m1->b≠m2->w'.heap[b]? = w.heap[b]?) (hf:FoldAt w' w' B g m1 m2 fo' pA pn pc lA ln lc fence' settled' 65536 64) :
 Led w' B X g m1 m2 fo' os pA pn pc lA ln lc fence' settled':=by
 obtain⟨xs,hx⟩:=h.lost
 have hl:=h.lostLt
 have hX:∀ b,X b->b≠g/\b≠m1/\b≠m2:=fun b hb=>⟨fun e=>h.ng (e▸hb),fun e=>h.n1 (e▸hb),fun e=>h.n2 (e▸hb)⟩
 refine⟨hf,h.row.kept ⟨hs,fun b h1 h2=>hk b h2 (hX b h1).1 (hX b h1).2.1 (hX b h1).2.2⟩,⟨xs,ownsRow_keep hx fun q hq=>?_⟩,h.ng,h.n1,h.n2,h.nl,fun b hb=>⟨(h.xlt b hb).1,Nat.lt_of_lt_of_le (h.xlt b hb).2 hs⟩⟩
 rw [ownBlock_slice] at hq
 have hn:=h.nl q hq
 exact hk q (hl q hq).2 hn.2.1 hn.2.2.1 hn.2.2.2
end
def PutT (w:World) (cs:Array Value) (R:World->Prop):List Value->World->Prop
 | [],W=>W=w
 | [u],W=>u=.slice (some ⟨w.heap.size,0,none⟩) 1 1/\W=w.alloc (.cells cs 45)
 | [_,_],W=>R W
 | _,_=>False
section
variable {cs:Array Value} {fence settled:Int} {fo os:List OpC} {vs:List Value} {B b5 b8 g lc ln m m1 m2 pc:Nat} {X:Nat->Prop} {lA pA:O} {o:OpC} {W w:World} {R:World->Prop}
theorem PutT.low (h:PutT w cs R vs W) (hl:vs.length<=1):Below w w W:=by
 rcases vs with _|⟨u,_|⟨v,l⟩⟩
 ·obtain rfl:=h;exact Below.refl _ _
 ·obtain⟨_,rfl⟩:=h;exact (Below.refl _ _).alloc (Nat.le_refl _) _
 ·simp at hl
theorem put3 (Q:Z) (a:Act) (hfr:Fr 51 a [(0,g),(5,b5),(8,b8)]) (h:Led w B X g m1 m2 fo os pA (m+1) pc lA ln lc fence settled) (ho:os[m]? = some o) (hfit:Fits o) (hfits:∀ x∈fo,Fits x) (hfl:fo.length<=1000) (hm:m<=1000) (hB:B<=w) (hQ:∀ a' W,Fr 51 a' [(0,g),(5,b5),(8,b8)]->(Led W B X g m1 m2 (fo++[o]) os pA (m+1) pc lA ln lc fence settled/\Kept (fun b=>¬ (b=g\/b=m1\/b=m2)) w W/\Below B w W)->Q .normal a' W) :
 (part [1,1,1,0] (codeOf putFF)).wp prog Q a w:=by
 obtain⟨ad,o',oA,on,oc,rfl,hab,hck,hop,hss⟩:=h.row.opsIs.at_ (k:=m) (by omega)
 rw [ho] at hck
 injection hck with hck
 subst hck
 have hd:Led w.drew B X g m1 m2 fo os (some ad) (m+1) pc lA ln lc fence settled:=h.keep ⟨Nat.le_refl _,fun _ _ _=>rfl⟩
 have hop':OpAt w.drew (ad.add (m*9)) (o.at_ oA on oc):=hop
 have hs':StrIs w.drew X oA on oc o.hs:=hss.below ⟨rfl,rfl,rfl,Nat.le_refl _,fun _ _=>rfl⟩
 have hB':B<=w.drew.heap.size:=hB
 have hab':(ad.add (m*9)).block<w.drew.heap.size:=hab
 have HQ:=J (show ∀ a' W,Fr 51 a' [(0,g),(5,b5),(8,b8)]->(Led W B X g m1 m2 (fo++[o]) os (some ad) (m+1) pc lA ln lc fence settled/\Kept (fun b=>¬ (b=g\/b=m1\/b=m2)) w.drew W/\Below B w.drew W)->Q .normal a' W from fun a' W hf hh=>hQ a' W hf (by obtain⟨h1,h2,h3⟩:=hh;exact⟨h1,h2,⟨h3.os,h3.tape,h3.output,h3.size,h3.block⟩⟩))
 clear h hop hss hB hQ ho hab
 obtain⟨w0,hw0⟩:∃ w0,w0=w.drew:=⟨_,rfl⟩
 rw [<-hw0] at hd hop' hs' hB' HQ hab'
 obtain⟨HL,HP,HAB,HS,HX,HF,HB,HN⟩:=J8 hd hop' hab' hs' hfit hfits hB' hfl
 have z1:IntKind.i64.wrap (((m:Int)+1)-1)=(m:Nat):=by rw [IntKind.wrap_i64];omega
 have z2:(0:Int)<=(m:Nat):=by omega
 have z3:((m:Nat):Int)<((m+1:Nat):Int):=by omega
 clear hd hop' hs' hab' hfit hfits hfl hB'
 refine gg hfr fun t=>?_
 generalize w=w1 at hw0 ⊢
 refine wp_region_chain kr [15,16] (fun i=>match i with|0=>g|1=>g|2=>g|3=>g|4=>g|5=>.pointer (some ⟨g,5,none⟩)|6=>.slice (some ad) (m+1) pc|7=>g|8=>g|9=>.pointer (some ⟨g,5,none⟩)|10=>.slice (some ad) (m+1) pc|11=>.int .i64 ((m:Int)+1)|12=>.int .i64 (m:Nat)|13=>.pointer (some (ad.add (m*9)))|14=>.agg #[.int .i64 o.n,o.epoch,o.kind,o.site,o.client,o.seq,.string o.name,o.size,.slice oA on oc]|_=>undef) (PutT w0 (oC o.n o.epoch o.kind o.site o.client o.seq o.name o.size oA on oc) (fun W=>Led W B X g m1 m2 (fo++[o]) os (some ad) (m+1) pc lA ln lc fence settled/\Kept (fun b=>¬ (b=g\/b=m1\/b=m2)) w0 W/\Below B w0 W)) (fun s i=>s==16&&decide (i<=16)) kr kr kr kr ?hS ?hfree ?hlink ?hend
 case hS=>exact hw0.symm
 case hfree=>
  intro i o F U vs W ho hni hS hlen hlim hat hoff hd
  have e0:=oo 0 g
  have t0:=act_tmp e0
  obtain⟨qa,qb⟩:=J2 hat hd
  clear hat hoff hd
  match i with
  | 0|3|7=>
   exact Y66
  | 1=>
   cases ho
   have t31:=act_tmp (fev qa qb 0 31)
   exact vl ⟨rfl,rfl⟩
  | 2=>
   cases ho
   have t32:=act_tmp (fev qa qb 1 32)
   exact vl ⟨rfl,rfl⟩
  | 4=>
   cases ho
   have t34:=act_tmp (fev qa qb 3 34)
   exact vl ⟨rfl,rfl⟩
  | 5=>
   cases ho
   have t35:=act_tmp (fev qa qb 4 35)
   exact vl ⟨rfl,rfl⟩
  | 6=>
   cases ho
   have t36:=act_tmp (fev qa qb 5 36)
   have hsm:=hS.low (hlim 1 16 rfl rfl)
   exact Y82
  | 8=>
   cases ho
   have t38:=act_tmp (fev qa qb 7 38)
   exact vl ⟨rfl,rfl⟩
  | 9=>
   cases ho
   have t39:=act_tmp (fev qa qb 8 39)
   exact vl ⟨rfl,rfl⟩
  | 10=>
   cases ho
   have t40:=act_tmp (fev qa qb 9 40)
   have hsm:=hS.low (hlim 1 16 rfl rfl)
   exact Y82
  | 11=>
   cases ho
   have t41:=act_tmp (fev qa qb 10 41)
   exact vl ⟨rfl,rfl⟩
  | 12=>
   cases ho
   have t42:=act_tmp (fev qa qb 11 42)
   exact Y54
  | 13=>
   cases ho
   have t37:=act_tmp (fev qa qb 6 37)
   have t43:=act_tmp (fev qa qb 12 43)
   exact Y54
  | 14=>
   cases ho
   have t44:=act_tmp (fev qa qb 13 44)
   have hsm:=hS.low (hlim 1 16 rfl rfl)
   obtain⟨k0,k1,k2,k3,k4,k5,k6,k7,k8⟩:=HP.out.below hsm HAB.out
   simp only [OpC.at_] at k0 k1 k2 k3 k4 k5 k6 k7 k8
   exact vl ⟨rfl,rfl⟩
  | 15|16=>
   exact Y81
  | i+17=>exact absurd ho (by simp)
 case hlink=>
  intro k i o F U vs W hk ho hS hvl hat hoff hd
  have:=ot 0 g
  obtain⟨qa,qb⟩:=J2 hat hd
  clear hat hoff hd
  match k with
  | 0=>
   cases hk;cases ho;obtain rfl:=List.eq_nil_of_length_eq_zero hvl;have e45:=fev qa qb 14 45;have t45:=act_tmp e45;obtain rfl:=hS
   exact wp_value' (.slice (some ⟨W.heap.size,0,none⟩) 1 1) (W.alloc (.cells (oC o.n o.epoch o.kind o.site o.client o.seq o.name o.size oA on oc) 45)) (by unfold execOp;go_simp) ⟨_,rfl,rfl,rfl⟩
  | 1=>
   cases hk;cases ho;obtain⟨u0,rfl⟩:=ln1 hvl;have e33:=fev qa qb 2 33;have t33:=act_tmp e33;have e46:=cev qa qb 15 46;have t46:=act_tmp e46;obtain⟨rfl,rfl⟩:=hS;obtain⟨w1,hw1⟩:∃ w1,w1=w0.alloc (.cells (oC o.n o.epoch o.kind o.site o.client o.seq o.name o.size oA on oc) 45):=⟨_,rfl⟩;rw [<-hw1]
   have hb1:Below w0 w0 w1:=by rw [hw1];exact (Below.refl _ _).alloc (Nat.le_refl _) _
   have hz1:w1.heap.size=w0.heap.size+1:=by rw [hw1];simp
   have hblk:Blk w1 w0 45 (oC o.n o.epoch o.kind o.site o.client o.seq o.name o.size oA on oc):=by rw [hw1];exact Blk.new _ _ _
   have hop:OpsIs w1 (fun b=>X b\/b=w0.heap.size) (some ⟨w0.heap.size,0,none⟩) 1 1 [o]:=⟨[o.at_ oA on oc],Rs.of (hblk.reads (n:=1) (size:=9) rfl) fun _ ad e=>by injection e with e;subst e;exact .inr rfl,⟨⟨oA,on,oc,rfl,(HS.out.below hb1).mono fun _ _ h=>.inl h⟩,trivial⟩,by omega,by unfold maxLen;omega⟩
   have hL:=HL.out.below hb1;have lt1:=HL.out.fold.blk.lt;have lt2:=HL.out.fold.live.lt;have lt3:=HL.out.fold.last.lt
   refine wp_enter' 90 #[.pointer (some ⟨g,0,none⟩),.slice (some ⟨w0.heap.size,0,none⟩) 1 1] (by unfold execOp;go_simp) ?_
   refine (take_any hL.fold hop (fun b hb=>hb.elim (fun h=>⟨fun e=>HL.out.ng (e▸h),fun e=>HL.out.n1 (e▸h),fun e=>HL.out.n2 (e▸h)⟩) fun h=>by subst h;omega) HF.out (fun x hx=>by rw [List.mem_singleton] at hx;subst hx;exact HX.out) (by have:=HN.out;simp;omega) (by have:=HB.out;omega)).mono ?_
   rintro e W' ⟨rfl,hf⟩
   have hs':=hf.low.size;refine⟨_,rfl,_,rfl,?_,?_,?_⟩
   ·exact hL.refold hs' hf.others hf.base
   ·exact⟨by omega,fun b h1 h2=>(hf.others b (by omega) (fun e=>h1 (.inl e)) (fun e=>h1 (.inr (.inl e))) fun e=>h1 (.inr (.inr e))).trans (hb1.block b h2)⟩
   ·exact (hb1.mono HB.out).trans hf.low
  | k+2=>exact absurd hk (by simp)
 case hend=>
  intro U vs W hS hvl hfr hch
  obtain⟨x0,x1,rfl⟩:=ln2 hvl
  exact Y33
end
section
variable {fence settled:Int} {os:List OpC} {B b5 b8 c g lc ln m1 m2 n pc pn:Nat} {S X:Nat->Prop} {A lA pA:O} {o:OpC} {w:World}
theorem put4 (G:Ending->World->Prop) (a:Act) (hfr:Fr 51 a [(0,g),(5,b5),(8,b8)]) (hb5:Blk w b5 45 (oC o.n o.epoch o.kind o.site o.client o.seq o.name o.size A n c)) (hb8:Blk w b8 50 #[.int .i64 0,.int .i64 0,.int .i64 0]) (hQ:∀ w',Kept (fun b=>b≠b8) w w'->Below b8 w w'->G (.returned (doneV 0 o.n o.epoch)) w') :
 (part [1,1,1,1] (codeOf putFF)).wp prog (bodyPost prog putFF G) a w:=by
 obtain⟨d0,d1,d2,d3,d4,d5,d6,d7,d8⟩:=hb5.cs 0 9
 obtain⟨HQ,H8⟩:=J2 hQ hb8
 clear hQ hb5 hb8
 refine gg hfr fun t=>?_
 go_wp2_with fail
 refine (spotLed_any _ _ _ _ _ _ _ _ _ _).mono ?_
 rintro x w1 ⟨rfl,hb1⟩
 have h8:=H8.out.below hb1 H8.out.lt
 obtain⟨c0,c1,c2⟩:=h8.cs 0 3
 have f0:w1.frozen? ⟨b8,0,none⟩=false:=Blk.frozen h8 0
 have f1:w1.frozen? ⟨b8,1,none⟩=false:=Blk.frozen h8 1
 have f2:w1.frozen? ⟨b8,2,none⟩=false:=Blk.frozen h8 2
 obtain⟨HB1,H9⟩:=J2 hb1 h8
 clear hb1 h8
 go_wp2
 have h8:=H9.out
 have hfin:=((h8.set_ 0 (.int .i64 0)).set_ 1 (.int .i64 o.n)).set_ 2 (.int .i64 o.epoch)
 obtain⟨r0,r1,r2⟩:=hfin.cs 0 3
 refine bodyPost_ret (v:=doneV 0 o.n o.epoch) (by simp [results,results87,r0,r1,r2,go_sem]) rfl ?_
 have hb:=HB1.out
 have hlt:=H8.out.lt
 refine HQ.out _ ?_ ?_
 ·exact (((Kept.of _ hb).set_ ⟨b8,0,none⟩ (.inl fun h=>h rfl) _).set_ ⟨b8,1,none⟩ (.inl fun h=>h rfl) _).set_ ⟨b8,2,none⟩ (.inl fun h=>h rfl) _
 ·exact (((hb.mono (Nat.le_of_lt hlt)).setCell (p:=⟨b8,0,none⟩) (Nat.le_refl _) _).setCell (p:=⟨b8,1,none⟩) (Nat.le_refl _) _).setCell (p:=⟨b8,2,none⟩) (Nat.le_refl _) _
theorem put_any (epoch site:Int) (h:Led w B X g m1 m2 os os pA pn pc lA ln lc fence settled) (hs:StrIs w S A n c o.hs) (hr:Rows os) (hl:os.length<80) (ho:opB (newOp os o epoch site)=true) (hB:B<=w) :
 Calls prog 87 #[.pointer (some ⟨g,0,none⟩),.agg (oC o.n o.epoch o.kind o.site o.client o.seq o.name o.size A n c),epoch,site] w fun x w'=>
  ∃ A' c' X',x=.returned (doneV 0 (os.length+1) epoch)/\Led w' B X' g m1 m2 (os++[newOp os o epoch site]) (os++[newOp os o epoch site]) A' (pn+1) c' lA ln lc fence settled/\Kept (fun b=>¬ All X g m1 m2 lA b) w w'/\Below B w w'/\∀ b,X' b->X b\/w.heap.size<=b:=by
 have hpn:=h.len
 have hblk:=h.fold.blk
 have hgl:=hblk.lt
 obtain⟨N,hN⟩:∃ N:Int,N=os.length+1:=⟨_,rfl⟩
 have hnew:newOp os o epoch site={o with n:=N,epoch:=epoch,site:=site}:=by rw [hN];rfl
 rw [hnew] at ho
 rw [hnew,<-hN]
 obtain⟨w1,hw1⟩:∃ w1,w1=(w.alloc (.cells (oC N epoch o.kind site o.client o.seq o.name o.size A n c) 45)).alloc (.cells #[.int .i64 0,.int .i64 0,.int .i64 0] 50):=⟨_,rfl⟩
 have hz1:w1.heap.size=w.heap.size+2:=by rw [hw1];simp
 have hb1:Below w w w1:=by
  rw [hw1]
  exact ((Below.refl _ _).alloc (Nat.le_refl _) _).alloc (by simp) _
 have h5:Blk w1 w 45 (oC N epoch o.kind site o.client o.seq o.name o.size A n c):=by
  rw [hw1]
  exact (Blk.new w 45 (oC N epoch o.kind site o.client o.seq o.name o.size A n c)).alloc (.cells #[.int .i64 0,.int .i64 0,.int .i64 0] 50)
 have h8:Blk w1 (w.heap.size+1) 50 #[.int .i64 0,.int .i64 0,.int .i64 0]:=by
  rw [hw1]
  have h0:=Blk.new (w.alloc (.cells (oC N epoch o.kind site o.client o.seq o.name o.size A n c) 45)) 50 #[.int .i64 0,.int .i64 0,.int .i64 0]
  have e:(w.alloc (.cells (oC N epoch o.kind site o.client o.seq o.name o.size A n c) 45)).heap.size=w.heap.size+1:=by simp
  rw [e] at h0
  exact h0
 have rest:∀ a,Fr 51 a [(0,g),(5,(w:Nat)),(8,(w.heap.size+1:Nat))]->
  (part [1,1] (codeOf putFF)).wp prog (bodyPost prog putFF fun x w'=>∃ A' c' X',x=.returned (doneV 0 N epoch)/\Led w' B X' g m1 m2 (os++[{o with n:=N,epoch:=epoch,site:=site}]) (os++[{o with n:=N,epoch:=epoch,site:=site}]) A' (pn+1) c' lA ln lc fence settled/\Kept (fun b=>¬ All X g m1 m2 lA b) w w'/\Below B w w'/\∀ b,X' b->X b\/w.heap.size<=b) a w1:=by
  intro a hfr
  refine Wt ?_
  refine put2 (o:={o with n:=N,epoch:=epoch,site:=site}) _ a hfr (h.below hb1) h5 (hs.below hb1) (opB_fits ho).ok (by omega) (by omega) fun a2 w2 hf2 hh=>?_
  obtain⟨A',c',X',e1,e2,e3,e4⟩:=hh
  have hlen2:(os++[({o with n:=N,epoch:=epoch,site:=site}:OpC)]).length=pn+1:=by simp;omega
  have nX:∀ b,w.heap.size<=b->¬ X b:=fun b h1 h2=>by have:=(h.xlt b h2).2;omega
  have h52:=(e2.2 w.heap.size ⟨nX _ (Nat.le_refl _),by omega⟩ (by omega)).trans h5
  have h82:=(e2.2 (w.heap.size+1) ⟨nX _ (by omega),by omega⟩ (by omega)).trans h8
  refine Wt ?_
  refine put3 (o:={o with n:=N,epoch:=epoch,site:=site}) (m:=pn) _ a2 hf2 e1 (by rw [List.getElem?_append_right (by omega)];simp [hpn]) (opB_fits ho) hr.fits (by omega) (by omega) (by have:=e3.size;omega) fun a3 w3 hf3 hh3=>?_
  obtain⟨k1,k2,k3⟩:=hh3
  have lt1:=h.fold.live.lt
  have lt2:=h.fold.last.lt
  have s2:=e2.1
  have s3:=k2.1
  have h53:=(k2.2 w.heap.size (by omega) (by omega)).trans h52
  have h83:=(k2.2 (w.heap.size+1) (by omega) (by omega)).trans h82
  refine put4 (o:={o with n:=N,epoch:=epoch,site:=site}) _ a3 hf3 h53 h83 fun w4 q1 q2=>?_
  have hk:Kept (fun b=>¬ All X g m1 m2 lA b) w w4:=by
   have hk3:Kept (fun b=>¬ All X g m1 m2 lA b) w w3:=by
    refine ((Kept.of _ hb1).trans (e2.mono fun b _ hb=>⟨fun e=>hb (.inl e),fun e=>hb (.inr (.inl e))⟩)).trans (k2.mono fun b _ hb=>fun e=>?_)
    rcases e with e|e|e
    ·exact hb (.inr (.inl e))
    ·exact hb (.inr (.inr (.inl e)))
    ·exact hb (.inr (.inr (.inr (.inl e))))
   exact⟨by have:=q1.1;omega,fun b hb hlt=>(q1.2 b (by omega) (by omega)).trans (hk3.2 b hb hlt)⟩
  refine⟨A',c',X',rfl,k1.keep ⟨q1.1,fun b hb hlt=>q1.2 b ?_ hlt⟩,hk,?_,fun b hb=>(e4 b hb).imp id fun h=>by omega⟩
  ·rintro rfl
   rcases hb with hb|hb|hb|hb|hb
   ·rcases e4 _ hb with hb|hb
    ·exact nX _ (by omega) hb
    ·omega
   ·omega
   ·omega
   ·omega
   ·have:=(h.lostLt _ hb).2;omega
  ·exact (((hb1.mono (by omega)).trans e3).trans k3).trans (q2.mono (by omega))
 obtain⟨HR,HW⟩:=J2 rest hw1
 have c5:=((hblk.alloc (.cells (oC o.n o.epoch o.kind o.site o.client o.seq o.name o.size A n c) 45)).alloc (.cells #[.int .i64 0,.int .i64 0,.int .i64 0] 50)).cell 5
 simp at c5
 have z1:IntKind.i64.wrap ((pn:Int)+1)=N:=by rw [IntKind.wrap_i64];omega
 have b1:=(Blk.new w 45 (oC o.n o.epoch o.kind o.site o.client o.seq o.name o.size A n c)).alloc (.cells #[.int .i64 0,.int .i64 0,.int .i64 0] 50)
 have r0:=b1.frozen
 clear rest hw1 h hs hr hl ho hB hblk hnew hN hb1 h5 h8 hz1 b1
 go_enter func87,ntmps87
 conv=>arg 2;arg 2;arg 2;change part [1,1] (codeOf putFF)
 go_wp2_with fail
 rw [<-HW.out]
 exact HR.out _ ff
end
def LedIs (w:World) (B g:Nat) (Y:Nat->Prop) (k:Nat) (os:List OpC) (fence:Int):Prop:=
 (∀ b,Y b->B<=b/\b<w)/\Rows os/\∃ X m1 m2 pA pn pc lA ln lc settled,Led w B X g m1 m2 os os pA pn pc lA ln lc fence settled/\(∀ b,All X g m1 m2 lA b->Y b)/\ln<=k
def Acted (B g:Nat) (Y:Nat->Prop) (k:Nat) (os:List OpC) (fence:Int) (w w':World):Prop:=
 LedIs w' B g (New Y w w') k os fence/\Kept (fun b=>¬ Y b) w w'/\Below B w w'
section
variable {w w' w'':World} {B g:Nat} {Y Y':Nat->Prop} {k:Nat} {os os':List OpC} {fence fence':Int}
section
variable {k':Nat}
section
variable (h:LedIs w B g Y k os fence)
include h
theorem LedIs.mono (hi:∀ b,b<w.heap.size->Y b->Y' b) (hl:∀ b,Y' b->B<=b/\b<w):LedIs w B g Y' k os fence:=by
 obtain⟨h0,h3,X,m1,m2,pA,pn,pc,lA,ln,lc,st,h1,h2,h4⟩:=h
 exact⟨hl,h3,X,m1,m2,pA,pn,pc,lA,ln,lc,st,h1,fun b hb=>hi b (h1.allLt b hb).2 (h2 b hb),h4⟩
theorem LedIs.more (hk:k<=k'):LedIs w B g Y k' os fence:=by
 obtain⟨h0,h3,X,m1,m2,pA,pn,pc,lA,ln,lc,st,h1,h2,h4⟩:=h
 exact⟨h0,h3,X,m1,m2,pA,pn,pc,lA,ln,lc,st,h1,h2,by omega⟩
theorem LedIs.kept (hk:Kept Y w w'):LedIs w' B g Y k os fence:=by
 obtain⟨h0,h3,X,m1,m2,pA,pn,pc,lA,ln,lc,st,h1,h2,h4⟩:=h
 exact⟨fun b hb=>⟨(h0 b hb).1,Nat.lt_of_lt_of_le (h0 b hb).2 hk.1⟩,h3,X,m1,m2,pA,pn,pc,lA,ln,lc,st,h1.keep (hk.mono fun b _ hb=>h2 b hb),h2,h4⟩
theorem LedIs.below (hb:Below w w w'):LedIs w' B g Y k os fence:=h.kept (Kept.of _ hb)
theorem LedIs.gY:Y g:=by
 obtain⟨h0,h3,X,m1,m2,pA,pn,pc,lA,ln,lc,st,h1,h2,h4⟩:=h
 exact h2 g (.inr (.inl rfl))
theorem LedIs.rows:Rows os:=h.2.1
theorem LedIs.open_:∃ m1 m2 pA pn pc lA ln lc settled,Blk w g 98 (ledC (.map (some m1)) (usedF os) (.map (some m2)) (holderC os).1 (holderC os).2 pA pn pc lA ln lc fence settled 65536 64)/\OpsIs w Y pA pn pc os/\LiveF w m1 os.length (liveC os)/\LastF w m2 os.length (fun c=>(clientC os c).map fun o=>(o.n,o.epoch,o.seq)):=by
 obtain⟨h0,h3,X,m1,m2,pA,pn,pc,lA,ln,lc,st,h1,h2,h4⟩:=h
 exact⟨m1,m2,pA,pn,pc,lA,ln,lc,st,h1.fold.blk,h1.row.opsIs.mono fun b _ hb=>h2 b (.inl hb),h1.fold.live,h1.fold.last⟩
end
theorem New.lt (hY:∀ b,Y b->B<=b/\b<w) (hB:B<=w) (hs:w.heap.size<=w'):∀ b,New Y w w' b->B<=b/\b<w':=fun b hb=>hb.elim (fun h=>⟨(hY b h).1,Nat.lt_of_lt_of_le (hY b h).2 hs⟩) fun h=>⟨Nat.le_trans hB h.1,h.2⟩
theorem Acted.idle (h:LedIs w B g Y k os fence) (hb:Below w w w') (hB:B<=w):Acted B g Y k os fence w w':=
 ⟨(h.below hb).mono (fun _ _ x=>.inl x) (New.lt h.1 hB hb.size),Kept.of _ hb,hb.mono hB⟩
theorem Acted.trans (hY:∀ b,Y b->B<=b/\b<w) (h:Acted B g Y k os fence w w') (h':Acted B g (New Y w w') k' os' fence' w' w'') (hB:B<=w):Acted B g Y k' os' fence' w w'':=by
 have s1:=h.2.1.1
 have s2:=h'.2.1.1
 refine⟨h'.1.mono (fun b hb hx=>?_) (New.lt hY hB (by omega)),⟨by omega,fun b hb hlt=>(h'.2.1.2 b (fun hx=>hx.elim hb fun hx=>by omega) (by omega)).trans (h.2.1.2 b hb hlt)⟩,h.2.2.trans h'.2.2⟩
 rcases hx with (hx|hx)|hx
 ·exact .inl hx
 ·exact .inr ⟨hx.1,hb⟩
 ·exact .inr ⟨by omega,hb⟩
section
variable (h:LedIs w B g Y k os fence) (f:Int) (hB:B<=w)
include h f hB
theorem LedIs.fence_:Acted B g Y k os f w (w.setCell ⟨g,7,none⟩ (.int .i64 f)):=by
 obtain⟨h0,h3,X,m1,m2,pA,pn,pc,lA,ln,lc,st,h1,h2,h4⟩:=h
 have hne:∀ b,b≠g->(w.setCell ⟨g,7,none⟩ (.int .i64 f)).heap[b]? = w.heap[b]?:=fun b hb=>Below.heap_setCell _ _ _ b hb
 have hsz:(w.setCell ⟨g,7,none⟩ (.int .i64 f)).heap.size=w.heap.size:=by simp
 refine⟨⟨New.lt h0 hB (by omega),h3,X,m1,m2,pA,pn,pc,lA,ln,lc,st,h1.refold (fo':=os) (fence':=f) (settled':=st) (by omega) (fun b _ hb _ _=>hne b hb) ?_,fun b hb=>.inl (h2 b hb),h4⟩,?_,(Below.refl _ _).setCell (p:=⟨g,7,none⟩) h1.fold.bg _⟩
 ·exact⟨h1.fold.blk.set_ 7 _,h1.fold.live.keep (hne m1 h1.fold.n1.symm),h1.fold.last.keep (hne m2 h1.fold.n2.symm),Below.refl _ _,fun _ _ _ _ _=>rfl,h1.fold.n1,h1.fold.n2,h1.fold.n3,h1.fold.bg,h1.fold.b1,h1.fold.b2⟩
 ·exact (Kept.refl _ _).set_ ⟨g,7,none⟩ (.inl fun hn=>hn (h2 g (.inr (.inl rfl)))) _
theorem LedIs.settled_:Acted B g Y k os fence w (w.setCell ⟨g,8,none⟩ (.int .i64 f)):=by
 obtain⟨h0,h3,X,m1,m2,pA,pn,pc,lA,ln,lc,st,h1,h2,h4⟩:=h
 have hne:∀ b,b≠g->(w.setCell ⟨g,8,none⟩ (.int .i64 f)).heap[b]? = w.heap[b]?:=fun b hb=>Below.heap_setCell _ _ _ b hb
 have hsz:(w.setCell ⟨g,8,none⟩ (.int .i64 f)).heap.size=w.heap.size:=by simp
 refine⟨⟨New.lt h0 hB (by omega),h3,X,m1,m2,pA,pn,pc,lA,ln,lc,f,h1.refold (fo':=os) (fence':=fence) (settled':=f) (by omega) (fun b _ hb _ _=>hne b hb) ?_,fun b hb=>.inl (h2 b hb),h4⟩,?_,(Below.refl _ _).setCell (p:=⟨g,8,none⟩) h1.fold.bg _⟩
 ·exact⟨h1.fold.blk.set_ 8 _,h1.fold.live.keep (hne m1 h1.fold.n1.symm),h1.fold.last.keep (hne m2 h1.fold.n2.symm),Below.refl _ _,fun _ _ _ _ _=>rfl,h1.fold.n1,h1.fold.n2,h1.fold.n3,h1.fold.bg,h1.fold.b1,h1.fold.b2⟩
 ·exact (Kept.refl _ _).set_ ⟨g,8,none⟩ (.inl fun hn=>hn (h2 g (.inr (.inl rfl)))) _
end
end
end
section
variable {cs:Array Value} {b:Nat} {w:World}
theorem two_boxes (w:World) (c:Array Value):∃ w1,w1=(w.alloc (.cells c 47)).alloc (.cells #[.int .i64 0,.int .i64 0,.int .i64 0] 50)/\w1.heap.size=w.heap.size+2/\Below w w w1/\Blk w1 w 47 c/\Blk w1 (w.heap.size+1) 50 #[.int .i64 0,.int .i64 0,.int .i64 0]:=by
 refine⟨_,rfl,by simp,((Below.refl _ _).alloc (Nat.le_refl _) _).alloc (by simp) _,(Blk.new w 47 c).alloc (.cells #[.int .i64 0,.int .i64 0,.int .i64 0] 50),?_⟩
 have h0:=Blk.new (w.alloc (.cells c 47)) 50 #[.int .i64 0,.int .i64 0,.int .i64 0]
 have e:(w.alloc (.cells c 47)).heap.size=w.heap.size+1:=by simp
 rw [e] at h0
 exact h0
section
variable (h:Blk w b 50 cs) (hc:cs.size=3) (x y z:Value)
include h hc x y z
theorem done_set:Blk (((w.setCell ⟨b,0,none⟩ x).setCell ⟨b,1,none⟩ y).setCell ⟨b,2,none⟩ z) b 50 #[x,y,z]/\Kept (fun q=>q≠b) w (((w.setCell ⟨b,0,none⟩ x).setCell ⟨b,1,none⟩ y).setCell ⟨b,2,none⟩ z)/\Below b w (((w.setCell ⟨b,0,none⟩ x).setCell ⟨b,1,none⟩ y).setCell ⟨b,2,none⟩ z):=by
 refine⟨?_,(((Kept.refl _ _).set_ ⟨b,0,none⟩ (.inl fun h=>h rfl) _).set_ ⟨b,1,none⟩ (.inl fun h=>h rfl) _).set_ ⟨b,2,none⟩ (.inl fun h=>h rfl) _,(((Below.refl b w).setCell (p:=⟨b,0,none⟩) (Nat.le_refl _) _).setCell (p:=⟨b,1,none⟩) (Nat.le_refl _) _).setCell (p:=⟨b,2,none⟩) (Nat.le_refl _) _⟩
 have h1:=((h.set_ 0 x).set_ 1 y).set_ 2 z
 obtain⟨l⟩:=cs
 match l,hc with
 | [a,b',c'],_=>exact h1
theorem done_end:∃ W,W=(((w.setCell ⟨b,0,none⟩ x).setCell ⟨b,1,none⟩ y).setCell ⟨b,2,none⟩ z)/\W.cell? ⟨b,0,none⟩=some x/\W.cell? ⟨b,1,none⟩=some y/\W.cell? ⟨b,2,none⟩=some z/\Kept (fun q=>q≠b) w W/\Below b w W:=by
 obtain⟨h1,h2,h3⟩:=done_set h hc x y z
 exact⟨_,rfl,h1.cell 0,h1.cell 1,h1.cell 2,h2,h3⟩
end
end
section
variable {w w1 w2 w3:World} {B g b:Nat} {Y:Nat->Prop} {k:Nat} {os:List OpC} {fence:Int}
theorem Acted.boxed (hY:∀ b,Y b->B<=b/\b<w) (hB:B<=w) (hb1:Below w w w1) (h:Acted B g Y k os fence w1 w2) (hb:w.heap.size<=b/\b<w1) (hk:Kept (fun q=>q≠b) w2 w3) (hl:Below b w2 w3):Acted B g Y k os fence w w3:=by
 have s1:=hb1.size
 have s2:=h.2.1.1
 have s3:=hk.1
 refine⟨(h.1.kept (hk.mono fun q _ hq e=>?_)).mono (fun q hq hx=>?_) (New.lt hY hB (by omega)),?_,((hb1.mono hB).trans h.2.2).trans (hl.mono (by omega))⟩
 ·subst e
  rcases hq with hq|hq
  ·have:=(hY _ hq).2;omega
  ·omega
 ·rcases hx with hx|hx
  ·exact .inl hx
  ·exact .inr ⟨by omega,hq⟩
 ·exact⟨by omega,fun q h1 h2=>((hk.2 q (by omega) (by omega)).trans (h.2.1.2 q h1 (by omega))).trans (hb1.block q h2)⟩
end
section
variable {a:Act} {R:Ending->World->Prop} {fn:Func} {fence:Int} {os:List OpC} {B b c g k n:Nat} {S Y:Nat->Prop} {A:O} {o:OpC} {P:Program} {u0 u1 u2:Value} {w:World}
theorem put_led (epoch site:Int) (h:LedIs w B g Y k os fence) (hs:StrIs w S A n c o.hs) (hl:os.length<80) (ho:opB (newOp os o epoch site)=true) (hB:B<=w) :
 Calls prog 87 #[.pointer (some ⟨g,0,none⟩),.agg (oC o.n o.epoch o.kind o.site o.client o.seq o.name o.size A n c),epoch,site] w fun x w'=>
  x=.returned (doneV 0 (os.length+1) epoch)/\Acted B g Y k (os++[newOp os o epoch site]) fence w w':=by
 obtain⟨h0,h3,X,m1,m2,pA,pn,pc,lA,ln,lc,st,h1,h2,h4⟩:=h
 refine (put_any epoch site h1 hs h3 hl ho hB).mono ?_
 rintro x w' ⟨A',c',X',rfl,e1,e2,e3,e4⟩
 refine⟨rfl,⟨New.lt h0 hB e2.1,h3.snoc rfl ho,X',m1,m2,A',pn+1,c',lA,ln,lc,st,e1,fun b hb=>?_,h4⟩,e2.mono fun b _ hb hx=>hb (h2 b hx),e3⟩
 have hlt:=(e1.allLt b hb).2
 rcases hb with hb|hb|hb|hb|hb
 ·rcases e4 b hb with hb|hb
  ·exact .inl (h2 b (.inl hb))
  ·exact .inr ⟨hb,hlt⟩
 ·exact .inl (h2 b (.inr (.inl hb)))
 ·exact .inl (h2 b (.inr (.inr (.inl hb))))
 ·exact .inl (h2 b (.inr (.inr (.inr (.inl hb)))))
 ·exact .inl (h2 b (.inr (.inr (.inr (.inr hb)))))
theorem de (h:Blk w b 50 #[u0,u1,u2]) (x y z:Int):∃ W,Hid (W=(((w.setCell ⟨b,0,none⟩ (.int .i64 x)).setCell ⟨b,1,none⟩ (.int .i64 y)).setCell ⟨b,2,none⟩ (.int .i64 z)))/\W.cell? ⟨b,0,none⟩=some (.int .i64 x)/\W.cell? ⟨b,1,none⟩=some (.int .i64 y)/\W.cell? ⟨b,2,none⟩=some (.int .i64 z)/\Hid (Kept (fun q=>q≠b) w W)/\Hid (Below b w W)/\
 w.cell? ⟨b,0,none⟩=some u0/\w.cell? ⟨b,1,none⟩=some u1/\w.cell? ⟨b,2,none⟩=some u2/\∀ i,w.frozen? ⟨b,i,none⟩=false:=by
 obtain⟨W,h1,h2,h3,h4,h5,h6⟩:=done_end h rfl (.int .i64 x) (.int .i64 y) (.int .i64 z)
 exact⟨W,h1,h2,h3,h4,h5,h6,h.cell 0,h.cell 1,h.cell 2,h.frozen⟩
theorem dr (x y z:Int) (k:R (.returned (doneV x y z)) w) (h:(results fn a.tmps).run P w=.ok (doneV x y z) w:=by simp [results,Try.results13,Try.results15,Try.results30,Try.results43,Try.results44,Try.results45,Try.results46,Try.results48,Try.results49,Try.results50,Try.results51,Try.results52,z0,z1,z2,go_sem]) (hd:a.defers=[]:=by rfl):bodyPost P fn R .ret a w:=bodyPost_ret h hd k
end
theorem reign_any {w:World} {B g:Nat} {Y:Nat->Prop} {k:Nat} {os:List OpC} {fence:Int} (kind epoch site:Int) (o:OpC) (hA:O) (hn hc:Nat) (after since:Int) (qA:O) (qn qc:Nat) (tag:Int) (h:LedIs w B g Y k os fence) (hB:B<=w) (ho:os.length<80->opB (newOp os reignOp epoch site)=true) :
 Calls prog 45 #[.pointer (some ⟨g,0,none⟩),.agg (cmdC kind epoch site o hA hn hc after since qA qn qc tag)] w fun x w'=>(∃ e n ep,x=.returned (doneV e n ep))/\
  Acted B g Y k (if epoch<=fence then (os,fence) else if 80<=os.length then (os,fence) else (os++[newOp os reignOp epoch site],epoch)).1 (if epoch<=fence then (os,fence) else if 80<=os.length then (os,fence) else (os++[newOp os reignOp epoch site],epoch)).2 w w':=by
 have h0:=h
 obtain⟨m1,m2,pA,pn,pc,lA,ln,lc,settled,hgb,hos,hlive,hlast⟩:=h.open_
 have hpn:=hos.len
 have hgl:=hgb.lt
 obtain⟨w1,hw1,hz1,hb1,h5,h8⟩:=two_boxes w (cmdC kind epoch site o hA hn hc after since qA qn qc tag)
 have hg1:=hgb.below hb1 hgl
 have ho1:=hos.below hb1
 obtain⟨HW,H8,HB1,HZ1,H0⟩:=J5 hw1 h8 hb1 hz1 h0
 have H1:=J (h0.below hb1)
 obtain⟨HB,HG,H5,HOS,HPN⟩:=J5 hB hg1 h5 ho1 hpn
 have g5:=hg1.c1 5
 have g7:=hg1.c1 7
 obtain⟨k1,k2⟩:=h5.cs 1 2
 have f7:=hg1.frozen 7
 by_cases c1:epoch<=fence
 ·rw [if_pos c1]
  have d1:decide (epoch<=fence)=true:=decide_eq_true c1
  clear h0 h hgb hos hpn hlive hlast hw1 hz1 hb1 h5 h8 hg1 ho1 hB ho c1
  go_enter func45,ntmps45
  exact Y9
 rw [if_neg c1]
 have d1:decide (epoch<=fence)=false:=decide_eq_false c1
 by_cases c2:80<=os.length
 ·rw [if_pos c2]
  have d2:decide ((80:Int)<=(pn:Int))=true:=decide_eq_true (by omega)
  clear h0 h hgb hos hpn hlive hlast hw1 hz1 hb1 h5 h8 hg1 ho1 hB ho c1 c2
  go_enter func45,ntmps45
  go_wp2_with fail
  rw [<-HW.out]
  go_quiet (fail)
  go_wp2_with fail
  refine (failed_any _ _).mono ?_
  rintro x w2 ⟨rfl,hb2⟩
  have hb2':Below w1 w1 w2:=⟨hb2.os,hb2.tape,hb2.output,hb2.size,hb2.block⟩
  have h82:=H8.out.below hb2' H8.out.lt
  obtain⟨W,hW,z0,z1,z2,hk,hl⟩:=done_end h82 rfl (.int .i64 125) (.int .i64 0) (.int .i64 0)
  obtain⟨y0,y1,y2⟩:=h82.cs 0 3
  have f0:=h82.frozen
  obtain⟨HWW,HKK,HLL,HB2⟩:=J4 hW hk hl hb2'
  clear hb2 hb2'
  clear h82 hk hl hW
  go_wp2
  rw [<-HWW.out]
  refine dr 125 0 0 ?_
  exact Y143
 rw [if_neg c2]
 have d2:decide ((80:Int)<=(pn:Int))=false:=decide_eq_false (by omega)
 have HC:=J c2
 have HO:=J (ho (by omega))
 clear h0 h hgb hos hpn hlive hlast hw1 hz1 hb1 h5 h8 hg1 ho1 hB ho c1 c2
 go_enter func45,ntmps45
 go_wp2_with fail
 rw [<-HW.out]
 go_quiet (fail)
 go_wp2_with fail
 have hq:Below w1 w1 (w1.drewN nq):=below_drewN (Below.refl _ _) _
 have hs1:=HZ1.out
 have hBw:=HB.out
 have ha1:=(H1.out.below hq).fence_ epoch (by have:=hq.size;omega)
 have s1:=ha1.2.1.1
 refine (put_led (S:=Any) (o:=reignOp) (A:=none) (n:=0) (c:=0) epoch site ha1.1 ⟨Rs.nil_ _ _ _ _,Nat.le_refl _,Nat.zero_le _⟩ (by have:=HC.out;omega) HO.out (by have:=hq.size;omega)).mono ?_
 rintro x w2 ⟨rfl,ha2⟩
 have ha:=Acted.trans (w:=w1.drewN nq) H1.out.1 ha1 ha2 (by have:=hq.size;omega)
 have h82:Blk w2 (w.heap.size+1) 50 #[.int .i64 0,.int .i64 0,.int .i64 0]:=(ha.2.1.2 (w.heap.size+1) (fun hy=>by have:=(H0.out.1 _ hy).2;omega) (by have:=hq.size;omega)).trans H8.out
 have HA:=J ha
 dsimp only
 obtain⟨W,HWW,z0,z1,z2,HKK,HLL,y0,y1,y2,f0⟩:=de h82 0 ((os.length:Int)+1) epoch
 clear ha ha1 ha2 s1 hs1 hq hBw
 clear h82
 go_wp2
 rw [<-HWW.out]
 refine dr 0 ((os.length:Int)+1) epoch ?_
 exact⟨⟨_,_,_,rfl⟩,Acted.boxed H0.out.1 HB.out (below_drewN HB1.out _) HA.out ⟨by omega,by have:=HZ1.out;show w.heap.size+1<w1;omega⟩ HKK.out HLL.out⟩
end Go.Proofs.Ytaipgdhdfpemcaa
