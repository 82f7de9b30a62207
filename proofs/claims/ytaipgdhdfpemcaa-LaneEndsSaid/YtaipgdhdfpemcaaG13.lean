/- THE WALKS OF THE LANE, part 13. -/
import Derived.Test.YtaipgdhdfpemcaaG8
import Derived.Test.YtaipgdhdfpemcaaG11
import Derived.Test.YtaipgdhdfpemcaaG12
namespace Go.Proofs.Ytaipgdhdfpemcaa
set_option linter.all false
open Go.RowKit Go.Proofs.Try
set_option maxRecDepth 100000
set_option maxHeartbeats 4000000
structure CmdC where
 kind:Int
 epoch:Int
 site:Int
 op:OpC
 after:Int
 since:Int
 ops:List OpC
 tag:Int
structure CmdC.Ok (c:CmdC):Prop where
 kind:I64 c.kind
 epoch:I64 c.epoch
 site:I64 c.site
 op:c.op.Ok
 after:I64 c.after
 since:I64 c.since
 ops:c.ops.length*96<=140737488351232
 each:∀ o∈c.ops,o.Ok
 tag:I64 c.tag
@[reducible] def cmdC (kind epoch site:Int) (o:OpC) (hA:O) (hn hc:Nat) (after since:Int) (pA:O) (pn pc:Nat) (tag:Int):Array Value:=
 #[kind,epoch,site,.int .i64 o.n,o.epoch,o.kind,o.site,o.client,o.seq,.string o.name,o.size,.slice hA hn hc,after,since,.slice pA pn pc,tag]
def CmdIs (w:World) (S:Nat->Prop) (cells:Array Value) (c:CmdC):Prop:=
 ∃ hA hn hc pA pn pc,cells=cmdC c.kind c.epoch c.site c.op hA hn hc c.after c.since pA pn pc c.tag/\StrIs w S hA hn hc c.op.hs/\OpsIs w S pA pn pc c.ops
section
variable {w w':World} {S S':Nat->Prop}
section
variable {cells:Array Value} {m:CmdC}
section
variable (h:CmdIs w S cells m)
include h
theorem CmdIs.kept (hk:Kept S w w'):CmdIs w' S cells m:=by
 obtain⟨hA,hn,hc,pA,pn,pc,h0,h1,h2⟩:=h
 exact⟨hA,hn,hc,pA,pn,pc,h0,h1.kept hk,h2.kept hk⟩
theorem CmdIs.below (hb:Below w w w'):CmdIs w' S cells m:=h.kept (Kept.of S hb)
theorem CmdIs.mono (hi:∀ b,b<w.heap.size->S b->S' b):CmdIs w S' cells m:=by
 obtain⟨hA,hn,hc,pA,pn,pc,h0,h1,h2⟩:=h
 exact⟨hA,hn,hc,pA,pn,pc,h0,h1.mono hi,h2.mono hi⟩
end
end
end
section
variable {xs:List Int} {c c' n n':Nat} {S S':Nat->Prop} {A A':O}
theorem sameReach_any (y z:Int) (w:World) (h:IntIs w S A n c xs) (h':IntIs w S' A' n' c' xs) (hn:n<=140737488351232) :
 Calls prog 35 #[.agg #[y,z,.slice A n c],.agg #[y,z,.slice A' n' c']] w fun e w'=>e=.returned (.bool true)/\Below w w w':=by
 have hb:Below w w ((w.alloc (.cells #[y,z,.slice A n c] 32)).alloc (.cells #[y,z,.slice A' n' c'] 32)):=((Below.refl _ _).alloc (Nat.le_refl _) _).alloc (by simp) _
 have hs:=sameHoles_any _ (h.below hb) (h'.below hb) hn
 obtain⟨HS,HB⟩:=J2 hs hb
 clear h h' hs hb
 go_enter func35,ntmps35
 exact Y51
theorem same11_any (cs cs':Array Value) (m:CmdC) (w:World) (h:CmdIs w S cs m) (h':CmdIs w S' cs' m) (hok:m.Ok) :
 Calls prog 20 #[.agg cs,.agg cs'] w fun e w'=>e=.returned (.bool true)/\Below w w w':=by
 obtain⟨hA,hn,hc,pA,pn,pc,rfl,h1,h2⟩:=h
 obtain⟨hA',hn',hc',pA',pn',pc',rfl,h1',h2'⟩:=h'
 have l1:=h1.len
 have l2:=h2.len
 have z1:hn<=140737488351232:=by have:=hok.op.hs;omega
 have z2:pn<=140737488351232:=by have:=hok.ops;omega
 have z3:∀ o∈m.ops,o.hs.length<=140737488351232:=fun o ho=>by have:=(hok.each o ho).hs;omega
 have Z3:=J z3
 clear l1 l2 hok z3
 obtain⟨k0,k1,k2,⟨x1,x2,x3,x4,x5,x6,x7,x8,x9⟩,k4,k5,k6,k7⟩:=m
 simp only at h1 h2 h1' h2' Z3
 have hb:Below w w ((w.alloc (.cells (cmdC k0 k1 k2 ⟨x1,x2,x3,x4,x5,x6,x7,x8,x9⟩ hA hn hc k4 k5 pA pn pc k7) 47)).alloc (.cells (cmdC k0 k1 k2 ⟨x1,x2,x3,x4,x5,x6,x7,x8,x9⟩ hA' hn' hc' k4 k5 pA' pn' pc' k7) 47)):=((Below.refl _ _).alloc (Nat.le_refl _) _).alloc (by simp) _
 have hx1:=(Blk.new w 47 (cmdC k0 k1 k2 ⟨x1,x2,x3,x4,x5,x6,x7,x8,x9⟩ hA hn hc k4 k5 pA pn pc k7)).alloc (.cells (cmdC k0 k1 k2 ⟨x1,x2,x3,x4,x5,x6,x7,x8,x9⟩ hA' hn' hc' k4 k5 pA' pn' pc' k7) 47)
 have hx2:Blk ((w.alloc (.cells (cmdC k0 k1 k2 ⟨x1,x2,x3,x4,x5,x6,x7,x8,x9⟩ hA hn hc k4 k5 pA pn pc k7) 47)).alloc (.cells (cmdC k0 k1 k2 ⟨x1,x2,x3,x4,x5,x6,x7,x8,x9⟩ hA' hn' hc' k4 k5 pA' pn' pc' k7) 47)) (w.heap.size+1) 47 (cmdC k0 k1 k2 ⟨x1,x2,x3,x4,x5,x6,x7,x8,x9⟩ hA' hn' hc' k4 k5 pA' pn' pc' k7):=by
  have:=Blk.new (w.alloc (.cells (cmdC k0 k1 k2 ⟨x1,x2,x3,x4,x5,x6,x7,x8,x9⟩ hA hn hc k4 k5 pA pn pc k7) 47)) 47 (cmdC k0 k1 k2 ⟨x1,x2,x3,x4,x5,x6,x7,x8,x9⟩ hA' hn' hc' k4 k5 pA' pn' pc' k7)
  simpa using this
 obtain⟨HB,X1,X2⟩:=J3 hb hx1 hx2
 have so:=sameOp_any ⟨x1,x2,x3,x4,x5,x6,x7,x8,x9⟩ _ (h1.below hb) (h1'.below hb) z1
 obtain⟨SO,R2,Q2⟩:=J3 so h2 h2'
 clear h1 h2 h1' h2' hb hx1 hx2 so
 go_enter func20,ntmps20
 go_wp2_with fail
 refine SO.out.mono ?_
 rintro e w1 ⟨rfl,hb1⟩
 have hy1:=X1.out.below hb1 X1.out.lt
 have hy2:=X2.out.below hb1 X2.out.lt
 have c14:=hy1.c1 14
 have d14:=hy2.c1 14
 have HB1:=J (HB.out.trans (hb1.mono HB.out.size))
 clear hb1 hy1 hy2
 go_wp2_with fail
 refine (sameOps_any _ (R2.out.below HB1.out) (Q2.out.below HB1.out) z2 Z3.out).mono ?_
 rintro e w2 ⟨rfl,hb2⟩
 have HB2:=J (HB1.out.trans (hb2.mono HB1.out.size))
 clear hb2
 go_wp2
 go_ret
 exact⟨rfl,HB2.out⟩
end
def One (x:Nat) (w w':World):Prop:=Save x w w'/\Below x w w'
section
variable {i j x:Nat} {w w':World}
theorem One.set (v:Value):One x w (w.setCell ⟨x,i,none⟩ v).drew:=
 ⟨fun b _ hb=>Below.heap_setCell _ _ _ b hb,((Below.refl x w).setCell (Nat.le_refl _) v).drew⟩
theorem One.set2 (v u:Value):One x w ((w.setCell ⟨x,i,none⟩ v).setCell ⟨x,j,none⟩ u):=
 ⟨fun b _ hb=>(Below.heap_setCell _ _ _ b hb).trans (Below.heap_setCell _ _ _ b hb),((Below.refl x w).setCell (Nat.le_refl _) v).setCell (Nat.le_refl _) u⟩
theorem One.turned (h:w.drew.mapTurned w' x):One x w w':=by
 obtain⟨es,c,es',c',hb,rfl⟩:=h
 have ho:∀ b,b≠x->(ChangeMaps.setBlock w.drew x (.map es' c')).heap[b]? = w.heap[b]?:=fun b hb'=>ChangeMaps.heap_setBlock_other hb _ hb'
 exact⟨fun b _ hb'=>ho b hb',⟨rfl,rfl,rfl,by simp [ChangeMaps.setBlock],fun b hb'=>ho b (by omega)⟩⟩
theorem One.grown (h:w.drew.grownBy w' (some x)) (hx:x<w):One x w w':=by
 have hb:∀ b,b<w.heap.size->b≠x->w'.heap[b]? = w.heap[b]?:=fun b h1 h2=>h.block b h1 fun e=>h2 (by injection e)
 exact⟨hb,⟨h.os,h.tape,h.output,h.size,fun b h1=>hb b (by omega) (by omega)⟩⟩
end
structure FoldAt (W w:World) (B g m1 m2:Nat) (os:List OpC) (pA:O) (pn pc:Nat) (lA:O) (ln lc:Nat) (fence settled quota room:Int):Prop where
 blk:Blk w g 98 (ledC (.map (some m1)) (usedF os) (.map (some m2)) (holderC os).1 (holderC os).2 pA pn pc lA ln lc fence settled quota room)
 live:LiveF w m1 os.length (liveC os)
 last:LastF w m2 os.length (fun c=>(clientC os c).map fun o=>(o.n,o.epoch,o.seq))
 low:Below B W w
 others:∀ b,b<W.heap.size->b≠g->b≠m1->b≠m2->w.heap[b]? = W.heap[b]?
 n1:g≠m1
 n2:g≠m2
 n3:m1≠m2
 bg:B<=g
 b1:B<=m1
 b2:B<=m2
structure Fits (o:OpC):Prop where
 ok:o.Ok
 name:o.name.size<=maxLen
 size:0<=o.size/\o.size<=512
section
variable {os:List OpC}
theorem sizeC_fits (h:∀ o∈os,Fits o) (s:ByteArray):0<=sizeC os s/\sizeC os s<=512:=by
 unfold sizeC liveC lastOp
 cases hf:os.reverse.find? fun o=>!decide (o.kind=3)&&decide (o.name=s) with
 | none=>exact (show (0:Int)<=0/\(0:Int)<=512 from ⟨by omega,by omega⟩)
 | some o=>
  have hm:o∈os:=by have:=List.mem_of_find?_eq_some hf;simpa using this
  have hs:=(h o hm).size
  by_cases hk:o.kind=1
  ·simp [hk,hs]
  ·simp [hk]
theorem usedF_fits:∀ os:List OpC,(∀ o∈os,Fits o)->0<=usedF os/\usedF os<=512*os.length:=by
 intro os h
 have hs:=sizeC_fits h
 rw [usedF_sum]
 have h1:∀ l:List ByteArray,0<=sumL (sizeC os) l/\sumL (sizeC os) l<=512*l.length:=by
  intro l
  induction l with
  | nil=>exact⟨Int.le_refl _,by simp [sumL]⟩
  | cons a l ih=>
   have:=hs a
   rw [sumL_cons,List.length_cons]
   omega
 have h2:∀ (l:List OpC) (acc:List ByteArray),(firsts l acc).length<=acc.length+l.length:=by
  intro l
  induction l with
  | nil=>intro acc;simp [firsts]
  | cons a l ih=>
   intro acc
   rw [firsts]
   have:=ih (if a.kind=3\/a.name∈acc then acc else acc++[a.name])
   rw [List.length_cons]
   split at this
   ·rename_i hx;rw [if_pos hx];omega
   ·rename_i hx;rw [if_neg hx];simp at this ⊢;omega
 have h3:=h2 os []
 have h4:=h1 (firsts os [])
 simp at h3
 omega
end
section
variable {W w w':World} {B g m1 m2:Nat} {os:List OpC} {pA:O} {pn pc:Nat} {lA:O} {ln lc:Nat} {fence settled quota room:Int}
theorem FoldAt.below (h:FoldAt W w B g m1 m2 os pA pn pc lA ln lc fence settled quota room) (hb:Below w w w') (hs:W.heap.size<=w) (hB:B<=w):FoldAt W w' B g m1 m2 os pA pn pc lA ln lc fence settled quota room:=
 ⟨h.blk.below hb h.blk.lt,h.live.keep (hb.block m1 h.live.lt),h.last.keep (hb.block m2 h.last.lt),h.low.trans (hb.mono hB),fun b h1 h2 h3 h4=>(hb.block b (by omega)).trans (h.others b h1 h2 h3 h4),h.n1,h.n2,h.n3,h.bg,h.b1,h.b2⟩
end
theorem fold_reign {W w:World} {B g m1 m2:Nat} {os:List OpC} {pA:O} {pn pc:Nat} {lA:O} {ln lc:Nat} {fence settled quota room:Int} {o:OpC} (h:FoldAt W w B g m1 m2 os pA pn pc lA ln lc fence settled quota room) (hk:o.kind=3) (hs:W.heap.size<=w) :
 FoldAt W ((w.setCell ⟨g,3,none⟩ (.int .i64 o.epoch)).setCell ⟨g,4,none⟩ (.int .i64 o.site)) B g m1 m2 (os++[o]) pA pn pc lA ln lc fence settled quota room:=by
 have h1:One g w ((w.setCell ⟨g,3,none⟩ (.int .i64 o.epoch)).setCell ⟨g,4,none⟩ (.int .i64 o.site)):=One.set2 _ _
 refine⟨?_,?_,?_,h.low.trans (h1.2.mono h.bg),fun b p1 p2 p3 p4=>(h1.1 b (by omega) p2).trans (h.others b p1 p2 p3 p4),h.n1,h.n2,h.n3,h.bg,h.b1,h.b2⟩
 ·rw [usedF_snoc,holderC_snoc,if_pos hk]
  unfold usedStep
  rw [if_pos hk]
  exact (h.blk.set_ 3 _).set_ 4 _
 ·refine ((h.live.keep (h1.1 m1 h.live.lt h.n1.symm)).more (by simp)).same fun s=>?_
  rw [liveC_snoc,if_neg (fun hx=>hx.1 hk)]
 ·refine ((h.last.keep (h1.1 m2 h.last.lt h.n2.symm)).more (by simp)).same fun s=>?_
  rw [clientC_snoc,if_neg (fun hx=>hx.1 hk)]
theorem spotLed_any (a1 a2 a3 a4 a5 a6:Int) (a7:ByteArray) (a8:Int) (a9:Value) (w:World) :
 Calls prog 80 #[.agg #[a1,a2,a3,a4,a5,a6,.string a7,a8,a9]] w fun x w'=>x=.returned (.agg #[a1,a2])/\Below w w w':=by
 go_enter func80,ntmps80
 go_wp2
 refine bodyPost_ret (v:=.agg #[a1,a2]) (by simp [results,results80,go_sem]) rfl ?_
 exact Y108
theorem freshM_any (w:World):Calls prog 40 #[] w fun x w'=>∃ m1 m2,x=.returned (.agg #[.map (some m1),.int .i64 0,.map (some m2),.int .i64 0,.int .i64 0])/\LiveF w' m1 0 (fun _=>none)/\LastF w' m2 0 (fun _=>none)/\m1≠m2/\w.heap.size<=m1/\w.heap.size<=m2/\Below w w w':=by
 go_enter func40,ntmps40
 go_wp2
 rw [run_makeMap_plain]
 go_wp2
 rw [run_makeMap_plain]
 go_wp2
 refine bodyPost_ret (v:=.agg #[.map (some (w.heap.size+1)),.int .i64 0,.map (some (w.heap.size+1+1)),.int .i64 0,.int .i64 0]) (by simp [results,results40,go_sem]) rfl ?_
 refine⟨_,_,rfl,?_,?_,by omega,by omega,by omega,(((Below.refl _ _).alloc (Nat.le_refl _) _).alloc (by simp) _).alloc (by simp;omega) _⟩
 ·have h:=LiveF.made (w.alloc (.cells #[.map (some (w.heap.size+1)),.int .i64 0,.map (some (w.heap.size+1+1)),.int .i64 0,.int .i64 0] 95))
  have e:(w.alloc (.cells #[.map (some (w.heap.size+1)),.int .i64 0,.map (some (w.heap.size+1+1)),.int .i64 0,.int .i64 0] 95)).heap.size=w.heap.size+1:=by simp
  rw [e] at h
  exact h.keep (Below.heap_alloc _ _ _ (by simp))
 ·have h:=LastF.made ((w.alloc (.cells #[.map (some (w.heap.size+1)),.int .i64 0,.map (some (w.heap.size+1+1)),.int .i64 0,.int .i64 0] 95)).alloc (.map #[] 0))
  have e:((w.alloc (.cells #[.map (some (w.heap.size+1)),.int .i64 0,.map (some (w.heap.size+1+1)),.int .i64 0,.int .i64 0] 95)).alloc (.map #[] 0)).heap.size=w.heap.size+1+1:=by simp
  rw [e] at h
  exact h
theorem newLed_any (w:World):Calls prog 8 #[.int .i64 65536,.int .i64 64] w fun x w'=>∃ g m1 m2,x=.returned (.tuple #[.pointer (some ⟨g,0,none⟩),.int .i64 0])/\FoldAt w' w' w.heap.size g m1 m2 [] none 0 0 none 0 0 0 0 65536 64/\Below w w w':=by
 go_enter func8,ntmps8
 go_wp2_with fail
 refine (freshM_any _).mono ?_
 rintro x w1 ⟨m1,m2,rfl,hl,ht,hne,g1,g2,hb1⟩
 obtain⟨HL,HT,HB⟩:=J3 hl ht hb1
 have l1:=hl.lt
 have l2:=ht.lt
 clear hb1 hl ht
 go_wp2
 go_ret2
 have hB:=HB.out.size
 refine⟨_,m1,m2,rfl,⟨Blk.new w1 _ _,?_,?_,Below.refl _ _,fun _ _ _ _ _=>rfl,by omega,by omega,hne,hB,g1,g2⟩,HB.out.alloc hB _⟩
 ·exact (HL.out.keep (Below.heap_alloc _ _ _ l1)).same fun _=>rfl
 ·exact (HT.out.keep (Below.heap_alloc _ _ _ l2)).same fun _=>rfl
theorem newRefLed_any (w:World):Calls prog 9 #[.int .i64 65536,.int .i64 64] w fun x w'=>x=.returned (.tuple #[.pointer (some ⟨w.heap.size,0,none⟩),.int .i64 0])/\w'=w.alloc (.cells #[.slice none 0 0,.slice none 0 0,.int .i64 0,.int .i64 0,.int .i64 65536,.int .i64 64] 62):=by
 go_enter func9,ntmps9
 go_wp2
 go_ret2
 exact⟨rfl,rfl⟩
structure LaneC where
 mN:Int
 mE:Int
 wN:Int
 wE:Int
 holes:List Int
 epoch:Int
 site:Int
 next:Int
structure LaneC.Ok (l:LaneC):Prop where
 mN:I64 l.mN
 mE:I64 l.mE
 wN:I64 l.wN
 wE:I64 l.wE
 holes:l.holes.length*8<=140737488351232
 each:∀ z∈l.holes,I64 z
 epoch:I64 l.epoch
 site:I64 l.site
 next:I64 l.next
def LaneIs (w:World) (S:Nat->Prop) (b:Nat) (l:LaneC):Prop:=
 ∃ oA on oc,Blk w b 127 (laneC l.mN l.mE l.wN l.wE oA on oc l.epoch l.site l.next)/\IntIs w S oA on oc l.holes
section
variable {w w':World} {S S':Nat->Prop} {b:Nat} {l:LaneC}
section
variable (h:LaneIs w S b l)
include h
theorem LaneIs.below (hb:Below w w w'):LaneIs w' S b l:=by
 obtain⟨oA,on,oc,h1,h2⟩:=h
 exact⟨oA,on,oc,h1.below hb h1.lt,h2.below hb⟩
theorem LaneIs.lt:b<w:=by
 obtain⟨oA,on,oc,h1,h2⟩:=h
 exact h1.lt
theorem LaneIs.kept (hk:Kept S w w') (hb:w'.heap[b]? = w.heap[b]?):LaneIs w' S b l:=by
 obtain⟨oA,on,oc,h1,h2⟩:=h
 exact⟨oA,on,oc,hb.trans h1,h2.kept hk⟩
end
end
section
variable {xs:List Int} {c n:Nat} {S:Nat->Prop} {A:O}
theorem cloneInts_any (w:World) (h:IntIs w S A n c xs) (hn:n*8<=140737488351232) :
 Calls prog 61 #[.slice A n c] w fun x w'=>∃ A' c',x=.returned (.slice A' n c')/\IntIs w' (From w.heap.size) A' n c' xs/\Below w w w':=by
 rcases A with _|ad
 ·have h0 : n = 0 := by
   exact Y127
  subst h0
  have hl:=h.len
  obtain rfl:xs=[]:=List.eq_nil_of_length_eq_zero hl
  have q:∀ (w:World),(binOp .eql 27 (.slice none 0 c) (.slice none 0 0)).run prog w=.ok (.bool true) w:=fun w=>Lib.run_eql_slice_nil w _ _ none 0 c 0 0 underlying27
  clear h hl
  go_enter func61,ntmps61
  exact Y123
 ·have HR:=J h
  clear h
  obtain⟨i0,hi0,hz0,hz1,hz2⟩:=info_parts Try.infoInt
  obtain⟨HI,HZ0,HZ1,HZ2⟩:=J4 hi0 hz0 hz1 hz2
  clear hi0 hz0 hz1 hz2
  have q:∀ (w:World),(binOp .eql 27 (.slice (some ad) n c) (.slice none 0 0)).run prog w=.ok (.bool false) w:=fun w=>Lib.run_eql_slice_nil w _ _ (some ad) n c 0 0 underlying27
  go_enter func61,ntmps61
  go_wp2_with (at_builtin;refine wpList_append_any _ rfl (.tmp 5) (.tmp 6) _ rfl w.heap.size 3 i0 _ 1 8 underlying27 HI.out HZ0.out HZ1.out HZ2.out rfl (by omega) (.slice (some ⟨w.heap.size,0,none⟩) 0 0) 0 [] rfl (own_empty w _ 1) w.heap.size (some ad) n c (intV .i64 xs) rfl (HR.out.1.reads.alloc (Nat.le_refl _) _) (intV_one xs) ?c1 ?c2 ?c3 ?_)
  case c1=>unfold maxLen;omega
  case c2=>omega
  case c3=>simp
  intro v1 w2 hown hg hat
  try simp only [Nat.zero_add,List.nil_append] at hown
  have hb2:Below w w w2:=((Below.refl _ _).alloc (Nat.le_refl _) _).grown hg (by simp) (by intro k hk;simp [Value.ownBlock] at hk;omega)
  obtain⟨g1,c1,cur,rfl,hc1,hcm,hg1,hbk,hrd⟩:=own_blk hown hat
  obtain⟨HB,HD⟩:=J2 hb2 hrd
  clear hown hg hat hrd hb2 hbk
  go_wp2
  go_ret
  exact⟨_,_,rfl,⟨Rs.of HD.out fun _ ad e=>by injection e with e;subst e;exact hg1,hc1,hcm⟩,HB.out⟩
section
variable (b:Nat) (l:LaneC) (w:World) (h:LaneIs w S b l)
include b l w h
theorem markL_any :
 Calls prog 29 #[.pointer (some ⟨b,0,none⟩)] w fun x w'=>x=.returned (.agg #[.int .i64 l.mN,.int .i64 l.mE])/\Below w w w':=by
 obtain⟨oA,on,oc,h1,h2⟩:=h
 have c0:=(h1.alloc (.cells #[.int .i64 0,.int .i64 0] 26)).cell 0
 have c1:=(h1.alloc (.cells #[.int .i64 0,.int .i64 0] 26)).cell 1
 simp at c0 c1
 clear h1 h2
 go_enter func29,ntmps29
 go_wp2
 refine bodyPost_ret (v:=.agg #[.int .i64 l.mN,.int .i64 l.mE]) (by simp [results,results29,go_sem]) rfl ?_
 exact Y73
theorem nextL_any :
 Calls prog 33 #[.pointer (some ⟨b,0,none⟩)] w fun x w'=>x=.returned (.int .i64 l.next)/\w'=w:=by
 obtain⟨oA,on,oc,h1,h2⟩:=h
 have c7:=h1.c1 7
 clear h1 h2
 go_enter func33,ntmps33
 exact Y154
end
theorem newL_ok (e s n:Int) (w:World) (he:1<=e/\e<=16) (hs:0<=s/\s<2) (hn:0<=n/\n<=80) :
 Calls prog 25 #[e,s,n] w fun x w'=>x=.returned (.tuple #[.pointer (some ⟨w.heap.size,0,none⟩),.int .i64 0])/\w'=w.alloc (.cells (laneC 0 0 0 0 none 0 0 e s n) 127):=by
 have t1:decide (e<1)=false:=decide_eq_false (by omega)
 have t2:decide (16<e)=false:=decide_eq_false (by omega)
 have t3:decide (s<0)=false:=decide_eq_false (by omega)
 have t4:decide (2<=s)=false:=decide_eq_false (by omega)
 have t5:decide (n<0)=false:=decide_eq_false (by omega)
 have t6:decide (80<n)=false:=decide_eq_false (by omega)
 clear he hs hn
 exact Y49
end
def newB (e s n:Int):Bool:=decide (1<=e/\e<=16/\0<=s/\s<2/\0<=n/\n<=80)
theorem newL_no (e s n:Int) (w:World) (h:newB e s n=false) :
 Calls prog 25 #[e,s,n] w fun x w'=>x=.returned (.tuple #[.pointer none,.int .i64 1])/\w'=w:=by
 have h0:=of_decide_eq_false h
 by_cases h1:e<1
 ·have t1:decide (e<1)=true:=decide_eq_true h1
  clear h h0 h1
  exact Y49
 have t1:decide (e<1)=false:=decide_eq_false h1
 by_cases h2:16<e
 ·have t2:decide (16<e)=true:=decide_eq_true h2
  clear h h0 h1 h2
  exact Y49
 have t2:decide (16<e)=false:=decide_eq_false h2
 by_cases h3:s<0
 ·have t3:decide (s<0)=true:=decide_eq_true h3
  clear h h0 h1 h2 h3
  exact Y49
 have t3:decide (s<0)=false:=decide_eq_false h3
 by_cases h4:2<=s
 ·have t4:decide (2<=s)=true:=decide_eq_true h4
  clear h h0 h1 h2 h3 h4
  exact Y49
 have t4:decide (2<=s)=false:=decide_eq_false h4
 by_cases h5:n<0
 ·have t5:decide (n<0)=true:=decide_eq_true h5
  clear h h0 h1 h2 h3 h4 h5
  exact Y49
 have t5:decide (n<0)=false:=decide_eq_false h5
 have t6:decide (80<n)=true:=decide_eq_true (by omega)
 clear h h0 h1 h2 h3 h4 h5
 go_enter func25,ntmps25
 go_wp2
 go_ret2
 exact⟨rfl,rfl⟩
end Go.Proofs.Ytaipgdhdfpemcaa
