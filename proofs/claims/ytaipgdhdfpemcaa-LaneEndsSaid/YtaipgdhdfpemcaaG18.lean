/- THE WALKS OF THE LANE, part 18. -/
import Derived.Test.YtaipgdhdfpemcaaG15
namespace Go.Proofs.Ytaipgdhdfpemcaa
set_option linter.all false
open Go.RowKit Go.Proofs.Try
set_option maxRecDepth 100000
set_option maxHeartbeats 4000000
@[reducible] noncomputable def takeFF:Func:=Try.f90
section
variable {ops:Array Oper} {f:ByteArray->Option Int} {fence hE hS quota room settled u:Int} {rest:List Oper} {c g k lc ln m1 m2 n ob oc on pc pn:Nat} {lA oA pA:O} {o:OpC} {P:Program} {sl:Value} {w:World}
theorem wpList_skip' {o:Oper} {a:Act} {Q:Z} (hgd:o.guard=none) (W':World) (h:(execOp a.eval o).run P w=.ok .skip W') (hk:wpList P ops Q rest (a.put o.dst undef) W'):wpList P ops Q (o::rest) a w:=
 wpList_plain hgd fun _ hK=>by
  unfold Oper.wp
  simp [h]
  exact hK _ _ hk
section
variable (Q:Z) (a:Act) (hfr:Fr 73 a [(0,g),(5,ob),(6,sl),(7,.int .i64 (n:Nat)),(8,.int .i64 (k:Nat))]) (hg:Blk w g 98 (ledC (.map (some m1)) u (.map (some m2)) hE hS pA pn pc lA ln lc fence settled quota room)) (ho:Blk w ob 45 (oC o.n o.epoch o.kind o.site o.client o.seq o.name o.size oA on oc))
include Q a hfr hg ho
section
variable (hl:LiveF w m1 c f) (hs:o.name.size<=maxLen)
include hl hs
theorem ft6 (hQ:∀ a' w',Fr 73 a' [(0,g),(5,ob),(6,sl),(7,.int .i64 (n:Nat)),(8,.int .i64 (k:Nat))]->LiveF w' m1 c (fun x=>if x=o.name then none else f x)->w.drew.mapTurned w' m1->Q .normal a' w') :
 (part [1,0,0,1,1,0,0,1,1,1,0] (codeOf takeFF)).wp prog Q a w:=by
 have g0:=hg.c1 0
 have o6:=ho.c1 6
 have HQ:=J hQ
 clear hQ
 have HL:=J hl
 clear hl hg ho
 refine gg hfr fun t=>?_
 go_still_tail 6,kr
 change wpList _ _ _ _ _ w.drew
 obtain⟨w',hrun,hl',ht⟩:=(HL.out.keep (w':=w.drew) rfl).drop hs 0
 refine wpList_value' rfl (.tuple #[]) w' (by simp [execOp,resolve,invoke,builtin,Act.eval,hrun,Result.andThen]) ?_
 exact Y84
theorem ft8 (hc:c<maxLen) (hQ:∀ a' w',Fr 73 a' [(0,g),(5,ob),(6,sl),(7,.int .i64 (n:Nat)),(8,.int .i64 (k:Nat))]->LiveF w' m1 (c+1) (fun x=>if x=o.name then some o.size else f x)->w.drew.grownBy w' (some m1)->Q .normal a' w') :
 (part [1,0,0,1,1,0,0,1,1,1,1,0,1,0,0] (codeOf takeFF)).wp prog Q a w:=by
 have g0:=hg.c1 0
 obtain⟨o6,o7,o8⟩:=ho.cs 6 3
 have HQ:=J hQ
 clear hQ
 have HL:=J hl
 clear hl hg ho
 refine gg hfr fun t=>?_
 go_still_tail 8,kr
 change wpList _ _ _ _ _ w.drew
 obtain⟨w',hrun,hl',ht⟩:=(HL.out.keep (w':=w.drew) rfl).put hc hs o.size oA on oc
 refine wpList_skip' rfl w' (by simp [execOp,Act.eval,hrun,Result.andThen]) ?_
 exact Y84
end
theorem ft10 {f:Int->Option (Int×Int×Int)} (hl:LastF w m2 c f) (hs:I64 o.client) (hc:c<maxLen) (hQ:∀ a' w',Fr 73 a' [(0,g),(5,ob),(6,sl),(7,.int .i64 (n:Nat)),(8,.int .i64 (k:Nat))]->LastF w' m2 (c+1) (fun x=>if x=o.client then some (o.n,o.epoch,o.seq) else f x)->w.drew.grownBy w' (some m2)->Q .normal a' w') :
 (part [1,0,0,1,1,0,0,1,1,1,1,1] (codeOf takeFF)).wp prog Q a w:=by
 have g2:=hg.c1 2
 obtain⟨o0,o1,o2,o3,o4,o5,o6,o7,o8⟩:=ho.cs 0 9
 have HQ:=J hQ
 clear hQ
 have HL:=J hl
 clear hl hg ho
 refine gg hfr fun t=>?_
 go_still_tail 7,kr
 change wpList _ _ _ _ _ w.drew
 obtain⟨w',hrun,hl',ht⟩:=(HL.out.keep (w':=w.drew) rfl).put hc hs o.n o.epoch o.kind o.site o.client o.seq o.name o.size oA on oc
 refine wpList_skip' rfl w' (by simp [execOp,Act.eval,hrun,Result.andThen]) ?_
 exact Y84
theorem ft9 (hw:wrap64 (u+o.size)=u+o.size) (hQ:∀ a' w',Fr 73 a' [(0,g),(5,ob),(6,sl),(7,.int .i64 (n:Nat)),(8,.int .i64 (k:Nat))]->w'=(w.setCell ⟨g,1,none⟩ (.int .i64 (u+o.size))).drew->Q .normal a' w') :
 (part [1,0,0,1,1,0,0,1,1,1,1,0,1,0,1] (codeOf takeFF)).wp prog Q a w:=by
 have g1:=hg.c1 1
 have o7:=ho.c1 7
 have HQ:=J hQ
 clear hQ
 have f1:w.frozen? ⟨g,1,none⟩=false:=hg.frozen 1
 have HWW:=J hw
 clear hg ho hw
 refine gg hfr fun t=>?_
 go_still_tail 10,kr
 change wpList _ _ _ _ _ w.drew
 go_wp2_with fail
 exact HQ.out _ _ ff (by rw [HWW.out])
theorem ft5 (hl:LiveF w m1 c f) (hs:o.name.size<=maxLen) (hw:wrap64 (u-(f o.name).getD 0)=u-(f o.name).getD 0) (hQ:∀ a' w',Fr 73 a' [(0,g),(5,ob),(6,sl),(7,.int .i64 (n:Nat)),(8,.int .i64 (k:Nat))]->w'=(w.setCell ⟨g,1,none⟩ (.int .i64 (u-(f o.name).getD 0))).drew->Q .normal a' w') :
 (part [1,0,0,1,1,0,0,1,1,0] (codeOf takeFF)).wp prog Q a w:=by
 obtain⟨g0,g1⟩:=hg.cs 0 2
 have o6:=ho.c1 6
 have HQ:=J hQ
 clear hQ
 have f1:w.frozen? ⟨g,1,none⟩=false:=hg.frozen 1
 obtain⟨A,p,q,hrun⟩:=(hl.keep (w':=w.drew) rfl).look hs
 obtain⟨z,hz⟩:∃ z,z=(f o.name).getD 0:=⟨_,rfl⟩
 rw [<-hz] at hrun hw HQ
 have qf:∀ w,(Instr.field 43 (.agg #[.int .i64 z,.slice A p q]) 0).run prog w=.ok (.int .i64 z) w:=fun w=>by kernel_rfl
 have HWW:=J hw
 clear hl hg ho hz hw
 refine gg hfr fun t=>?_
 go_still_tail 15,kr
 change wpList _ _ _ _ _ w.drew
 go_wp2_with fail
 exact HQ.out _ _ ff (by rw [HWW.out])
end
end
section
variable {ad:Addr} {fence hE hS quota room settled u:Int} {cp g k lc ln m1 m2 n ob oc on pc pn:Nat} {lA oA pA:O} {o:OpC} {sl:Value} {w:World}
section
variable (Q:Z) (a:Act)
include Q a
section
variable (hfr:Fr 73 a [(0,g),(6,sl),(7,.int .i64 (n:Nat)),(8,.int .i64 (k:Nat))])
include hfr
theorem ft1 (hQ:∀ a',Fr 73 a' [(0,g),(6,sl),(7,.int .i64 (n:Nat)),(8,.int .i64 (k:Nat)),(9,(decide (k<n)))]->Q .normal a' w) :
 (part [1,0,0,0] (codeOf takeFF)).wp prog Q a w:=by
 have HQ:=J hQ
 clear hQ
 refine gg hfr fun t=>?_
 by_cases hk:k<n
 ·have d:decide ((k:Int)<(n:Int))=true:=decide_eq_true (by omega)
  have HD:=J (decide_eq_true hk)
  exact Y126
 ·have d:decide ((k:Int)<(n:Int))=false:=decide_eq_false (by omega)
  have HD:=J (decide_eq_false hk)
  exact Y126
theorem ft11 (hk:k<100000) (hQ:∀ a',Fr 73 a' [(0,g),(6,sl),(7,.int .i64 (n:Nat)),(8,.int .i64 ((k+1:Nat):Nat))]->Q .normal a' w) :
 (part [1,0,0,1,1,1] (codeOf takeFF)).wp prog Q a w:=by
 have HQ:=J hQ
 clear hQ
 refine gg hfr fun t=>?_
 go_wp2_with fail
 exact HQ.out _ ⟨rfl,rfl,rfl,rfl,rfl,by simp [at_],trivial⟩
end
theorem ft2 (hfr:Fr 73 a [(0,g),(6,.slice (some ad) n cp),(7,.int .i64 (n:Nat)),(8,.int .i64 (k:Nat))]) (hk:k<n) (hop:OpAt w (ad.add (k*9)) (o.at_ oA on oc)) (hQ:∀ a' w',Fr 73 a' [(0,g),(5,(w:Nat)),(6,.slice (some ad) n cp),(7,.int .i64 (n:Nat)),(8,.int .i64 (k:Nat))]->Blk w' w 45 (oC o.n o.epoch o.kind o.site o.client o.seq o.name o.size oA on oc)->Below w w w'->Q .normal a' w') :
 (part [1,0,0,1,1,0,0,0] (codeOf takeFF)).wp prog Q a w:=by
 obtain⟨k0,k1,k2,k3,k4,k5,k6,k7,k8⟩:=hop
 simp only [OpC.at_] at k0 k1 k2 k3 k4 k5 k6 k7 k8
 have b1:(0:Int)<=(k:Int):=by omega
 have b2:(k:Int)<(n:Int):=by omega
 have HQ:=J hQ
 have HP:=J (Blk.new w 45 (oC o.n o.epoch o.kind o.site o.client o.seq o.name o.size oA on oc))
 have HB:=J ((Below.refl w.heap.size w).alloc (Nat.le_refl _) (.cells (oC o.n o.epoch o.kind o.site o.client o.seq o.name o.size oA on oc) 45))
 clear hQ hk
 refine gg hfr fun t=>?_
 go_wp2_with fail
 exact HQ.out _ _ ff HP.out HB.out
section
variable (hfr:Fr 73 a [(0,g),(5,ob),(6,sl),(7,.int .i64 (n:Nat)),(8,.int .i64 (k:Nat))])
include hfr
section
variable (ho:Blk w ob 45 (oC o.n o.epoch o.kind o.site o.client o.seq o.name o.size oA on oc))
include ho
theorem ft3 (hQ:∀ a',Fr 73 a' [(0,g),(5,ob),(6,sl),(7,.int .i64 (n:Nat)),(8,.int .i64 (k:Nat)),(14,(decide (o.kind=3)))]->Q .normal a' w) :
 (part [1,0,0,1,1,0,0,1,0,0] (codeOf takeFF)).wp prog Q a w:=by
 have o2:=ho.c1 2
 have HQ:=J hQ
 have HV:=J (show (o.kind==3)=decide (o.kind=3) from rfl)
 exact Y105
theorem ft7 (hQ:∀ a',Fr 73 a' [(0,g),(5,ob),(6,sl),(7,.int .i64 (n:Nat)),(8,.int .i64 (k:Nat)),(46,(decide (o.kind=1)))]->Q .normal a' w) :
 (part [1,0,0,1,1,0,0,1,1,1,1,0,0] (codeOf takeFF)).wp prog Q a w:=by
 have o2:=ho.c1 2
 have HQ:=J hQ
 have HV:=J (show (o.kind==1)=decide (o.kind=1) from rfl)
 exact Y105
end
theorem ft4 (hg:Blk w g 98 (ledC (.map (some m1)) u (.map (some m2)) hE hS pA pn pc lA ln lc fence settled quota room)) (ho:Blk w ob 45 (oC o.n o.epoch o.kind o.site o.client o.seq o.name o.size oA on oc)) (hQ:∀ a',Fr 73 a' [(0,g),(5,ob),(6,sl),(7,.int .i64 (n:Nat)),(8,.int .i64 (k:Nat))]->Q (.exit 1) a' ((w.setCell ⟨g,3,none⟩ (.int .i64 o.epoch)).setCell ⟨g,4,none⟩ (.int .i64 o.site))) :
 (part [1,0,0,1,1,0,0,1,0,1,0] (codeOf takeFF)).wp prog Q a w:=by
 obtain⟨g3,g4⟩:=hg.cs 3 2
 have o1:=ho.c1 1
 have o3:=ho.c1 3
 have f3:w.frozen? ⟨g,3,none⟩=false:=hg.frozen 3
 have f4:w.frozen? ⟨g,4,none⟩=false:=hg.frozen 4
 have HQ:=J hQ
 clear hQ hg ho
 exact Y30
end
end
end
section
variable {ad:Addr} {fence quota room settled u:Int} {os:List OpC} {B cp g k lc ln m1 m2 n ob oc on pc pn:Nat} {lA oA pA:O} {o:OpC} {W w:World}
theorem ft_end (Q:Z) (a:Act) (hfr:Fr 73 a [(0,g),(5,ob),(6,.slice (some ad) n cp),(7,.int .i64 (n:Nat)),(8,.int .i64 (k:Nat))]) (blk:Blk w g 98 (ledC (.map (some m1)) u (.map (some m2)) (holderC os).1 (holderC os).2 pA pn pc lA ln lc fence settled quota room)) (hu:u=usedF (os++[o])) (live:LiveF w m1 (os.length+1) (liveC (os++[o]))) (last:LastF w m2 os.length (fun c=>(clientC os c).map fun o=>(o.n,o.epoch,o.seq))) (box:Blk w ob 45 (oC o.n o.epoch o.kind o.site o.client o.seq o.name o.size oA on oc)) (low:Below B W w) (oth:∀ b,b<W.heap.size->b≠g->b≠m1->b≠m2->w.heap[b]? = W.heap[b]?) (n1:g≠m1) (n2:g≠m2) (n3:m1≠m2) (bg:B<=g) (b1:B<=m1) (b2:B<=m2) (hk3:¬ o.kind=3) (hok:o.Ok) (hlen:os.length<=100000) (hQ:∀ a' w',Fr 73 a' [(0,g),(6,.slice (some ad) n cp),(7,.int .i64 (n:Nat)),(8,.int .i64 (k:Nat))]->FoldAt W w' B g m1 m2 (os++[o]) pA pn pc lA ln lc fence settled quota room->Q .normal a' w') :
 (part [1,0,0,1,1,0,0,1,1,1,1,1] (codeOf takeFF)).wp prog Q a w:=by
 refine ft10 Q a hfr blk box last hok.client (by unfold maxLen;omega) fun a' w' hf' hl hg=>?_
 have h1:=One.grown hg last.lt
 have hs:=low.size
 refine hQ a' w' ⟨hf'.1,hf'.2.1,hf'.2.2.1,hf'.2.2.2.2.1,hf'.2.2.2.2.2.1,hf'.2.2.2.2.2.2.1,trivial⟩ ⟨?_,?_,?_,low.trans (h1.2.mono b2),fun b p1 p2 p3 p4=>(h1.1 b (by omega) p4).trans (oth b p1 p2 p3 p4),n1,n2,n3,bg,b1,b2⟩
 ·rw [<-hu,holderC_snoc,if_neg hk3]
  exact h1.1.blk blk n2
 ·exact (live.keep (h1.1 m1 live.lt n3)).more (by simp)
 ·refine (hl.more (by simp)).same fun c=>?_
  rw [clientC_snoc]
  by_cases hc:c=o.client
  ·rw [if_pos hc,if_pos ⟨hk3,hc.symm⟩]
   rfl
  ·rw [if_neg hc,if_neg (fun hx=>hc hx.2.symm)]
theorem ft_round (Q:Z) (a:Act) (hfr:Fr 73 a [(0,g),(6,.slice (some ad) n cp),(7,.int .i64 (n:Nat)),(8,.int .i64 (k:Nat))]) (h:FoldAt W w B g m1 m2 os pA pn pc lA ln lc fence settled quota room) (hk:k<n) (hop:OpAt w (ad.add (k*9)) (o.at_ oA on oc)) (hfit:Fits o) (hfits:∀ o∈os,Fits o) (hlen:os.length<=100000) (hB:B<=W) (hQ:∀ a' w',Fr 73 a' [(0,g),(6,.slice (some ad) n cp),(7,.int .i64 (n:Nat)),(8,.int .i64 (k:Nat))]->FoldAt W w' B g m1 m2 (os++[o]) pA pn pc lA ln lc fence settled quota room->Q .normal a' w'/\Q (.exit 1) a' w') :
 (part [1,0,0,1,1,0,0] (codeOf takeFF)).wp prog Q a w:=by
 have hsW:=h.low.size
 have hub:=usedF_fits os hfits
 have hsz:=sizeC_fits hfits o.name
 have hfs:=hfit.size
 refine Wt ?_
 refine ft2 _ a hfr hk hop fun a1 w1 hf1 hbx hb1=>?_
 have h1:=h.below hb1 hsW (by omega)
 have hs1:=hb1.size
 have lg:=h.blk.lt
 have lm1:=h.live.lt
 have lm2:=h.last.lt
 show (part [1,0,0,1,1,0,0,1] (codeOf takeFF)).wp prog (Q) a1 w1
 refine Wt ?_
 refine Wt ?_
 refine ft3 _ a1 hf1 hbx fun a2 hf2=>?_
 show (part [1,0,0,1,1,0,0,1,0,1] (codeOf takeFF)).wp prog (Exit.then ((part [1,0,0,1,1,0,0,1,1] (codeOf takeFF)).wp prog Q) Q) a2 w1
 refine wp_if (x:=part [1,0,0,1,1,0,0,1,0,1,0] (codeOf takeFF)) (y:=part [1,0,0,1,1,0,0,1,0,1,1] (codeOf takeFF)) (o:=.tmp 14) kr (eval_at hf2.2.2.2.2.2.2.2.1 rfl) (fun ht=>?_) fun ht=>?_
 ·have hk3:o.kind=3:=of_decide_eq_true ht
  refine ft4 _ a2 ⟨hf2.1,hf2.2.1,hf2.2.2.1,hf2.2.2.2.1,hf2.2.2.2.2.1,hf2.2.2.2.2.2.1,hf2.2.2.2.2.2.2.1,trivial⟩ h1.blk hbx fun a3 hf3=>?_
  exact (hQ a3 _ ⟨hf3.1,hf3.2.1,hf3.2.2.1,hf3.2.2.2.2.1,hf3.2.2.2.2.2.1,hf3.2.2.2.2.2.2.1,trivial⟩ (fold_reign h1 hk3 (by omega))).2
 have hk3:¬ o.kind=3:=of_decide_eq_false ht
 refine wp_nop kr ?_
 show (part [1,0,0,1,1,0,0,1,1] (codeOf takeFF)).wp prog (Q) a2 w1
 refine Wt ?_
 refine ft5 _ a2 ⟨hf2.1,hf2.2.1,hf2.2.2.1,hf2.2.2.2.1,hf2.2.2.2.2.1,hf2.2.2.2.2.2.1,hf2.2.2.2.2.2.2.1,trivial⟩ h1.blk hbx h1.live hfit.name (wrap_id (by unfold sizeC at hsz;omega)) fun a3 w2 hf3 e2=>?_
 have o2:One g w1 w2:=by rw [e2];exact One.set _
 have k2:Blk w2 g 98 (ledC (.map (some m1)) (usedF os-sizeC os o.name) (.map (some m2)) (holderC os).1 (holderC os).2 pA pn pc lA ln lc fence settled quota room):=by rw [e2];exact h1.blk.set_ 1 _
 have s2:=o2.2.size
 have x2:=o2.1.blk hbx (by omega)
 have l2:=h1.live.keep (o2.1 m1 h1.live.lt h1.n1.symm)
 have t2:=h1.last.keep (o2.1 m2 h1.last.lt h1.n2.symm)
 show (part [1,0,0,1,1,0,0,1,1,1] (codeOf takeFF)).wp prog (Q) a3 w2
 refine Wt ?_
 refine ft6 _ a3 hf3 k2 x2 l2 hfit.name fun a4 w3 hf4 l3 g3=>?_
 have o3:=One.turned g3
 have s3:=o3.2.size
 have k3:=o3.1.blk k2 h1.n1
 have x3:=o3.1.blk x2 (by omega)
 have t3:=t2.keep (o3.1 m2 t2.lt h1.n3.symm)
 have w3low:Below B W w3:=(h1.low.trans (o2.2.mono h1.bg)).trans (o3.2.mono h1.b1)
 have w3oth:∀ b,b<W.heap.size->b≠g->b≠m1->b≠m2->w3.heap[b]? = W.heap[b]?:=fun b p1 p2 p3 p4=>(o3.1 b (by omega) p3).trans ((o2.1 b (by omega) p2).trans (h1.others b p1 p2 p3 p4))
 show (part [1,0,0,1,1,0,0,1,1,1,1] (codeOf takeFF)).wp prog (Q) a4 w3
 refine Wt ?_
 refine Wt ?_
 refine ft7 _ a4 hf4 x3 fun a5 hf5=>?_
 show (part [1,0,0,1,1,0,0,1,1,1,1,0,1] (codeOf takeFF)).wp prog (Exit.then ((part [1,0,0,1,1,0,0,1,1,1,1,1] (codeOf takeFF)).wp prog Q) Q) a5 w3
 refine wp_if (x:=part [1,0,0,1,1,0,0,1,1,1,1,0,1,0] (codeOf takeFF)) (y:=part [1,0,0,1,1,0,0,1,1,1,1,0,1,1] (codeOf takeFF)) (o:=.tmp 46) kr (eval_at hf5.2.2.2.2.2.2.2.1 rfl) (fun ht=>?_) fun ht=>?_
 ·have hk1:o.kind=1:=of_decide_eq_true ht
  refine Wt ?_
  refine ft8 _ a5 ⟨hf5.1,hf5.2.1,hf5.2.2.1,hf5.2.2.2.1,hf5.2.2.2.2.1,hf5.2.2.2.2.2.1,hf5.2.2.2.2.2.2.1,trivial⟩ k3 x3 l3 hfit.name (by unfold maxLen;omega) fun a6 w4 hf6 l4 g4=>?_
  have o4:=One.grown g4 l3.lt
  have s4:=o4.2.size
  have k4:=o4.1.blk k3 h1.n1
  have x4:=o4.1.blk x3 (by omega)
  have t4:=t3.keep (o4.1 m2 t3.lt h1.n3.symm)
  show (part [1,0,0,1,1,0,0,1,1,1,1,0,1,0,1] (codeOf takeFF)).wp prog (Exit.then ((part [1,0,0,1,1,0,0,1,1,1,1,1] (codeOf takeFF)).wp prog Q) Q) a6 w4
  refine ft9 _ a6 hf6 k4 x4 (wrap_id (by omega)) fun a7 w5 hf7 e5=>?_
  have o5:One g w4 w5:=by rw [e5];exact One.set _
  have k5:Blk w5 g 98 (ledC (.map (some m1)) (usedF os-sizeC os o.name+o.size) (.map (some m2)) (holderC os).1 (holderC os).2 pA pn pc lA ln lc fence settled quota room):=by rw [e5];exact k4.set_ 1 _
  have s5:=o5.2.size
  show (part [1,0,0,1,1,0,0,1,1,1,1,1] (codeOf takeFF)).wp prog (Q) a7 w5
  refine ft_end Q a7 hf7 k5 ?_ ((l4.keep (o5.1 m1 l4.lt h1.n1.symm)).same fun s=>?_) (t4.keep (o5.1 m2 t4.lt h1.n2.symm)) (o5.1.blk x4 (by omega)) ((w3low.trans (o4.2.mono h1.b1)).trans (o5.2.mono h1.bg)) (fun b p1 p2 p3 p4=>(o5.1 b (by omega) p2).trans ((o4.1 b (by omega) p3).trans (w3oth b p1 p2 p3 p4))) h1.n1 h1.n2 h1.n3 h1.bg h1.b1 h1.b2 hk3 hfit.ok hlen fun a' w' hf' hh=>(hQ a' w' hf' hh).1
  ·rw [usedF_snoc]
   unfold usedStep
   rw [if_neg hk3,if_pos hk1]
  ·rw [liveC_snoc]
   by_cases hs:s=o.name
   ·rw [if_pos ⟨hk3,hs.symm⟩,if_pos hk1,if_pos hs]
   ·rw [if_neg (fun hx=>hs hx.2.symm),if_neg hs,if_neg hs]
 ·have hk1:¬ o.kind=1:=of_decide_eq_false ht
  refine wp_nop kr ?_
  show (part [1,0,0,1,1,0,0,1,1,1,1,1] (codeOf takeFF)).wp prog (Q) a5 w3
  refine ft_end Q a5 ⟨hf5.1,hf5.2.1,hf5.2.2.1,hf5.2.2.2.1,hf5.2.2.2.2.1,hf5.2.2.2.2.2.1,hf5.2.2.2.2.2.2.1,trivial⟩ k3 ?_ ((l3.more (Nat.le_succ _)).same fun s=>?_) t3 x3 w3low w3oth h1.n1 h1.n2 h1.n3 h1.bg h1.b1 h1.b2 hk3 hfit.ok hlen fun a' w' hf' hh=>(hQ a' w' hf' hh).1
  ·rw [usedF_snoc]
   unfold usedStep
   rw [if_neg hk3,if_neg hk1]
   omega
  ·rw [liveC_snoc]
   by_cases hs:s=o.name
   ·rw [if_pos ⟨hk3,hs.symm⟩,if_neg hk1,if_pos hs]
   ·rw [if_neg (fun hx=>hs hx.2.symm),if_neg hs]
end
def TkI (w:World) (B g m1 m2:Nat) (os xs:List OpC) (pA:O) (pn pc:Nat) (lA:O) (ln lc:Nat) (fence settled quota room:Int) (A:O) (n cp:Nat) (a:Act) (w':World):Prop:=
 ∃ k:Nat,k<=n/\Fr 73 a [(0,g),(6,.slice A n cp),(7,.int .i64 (n:Nat)),(8,.int .i64 (k:Nat))]/\FoldAt w w' B g m1 m2 (os++xs.take k) pA pn pc lA ln lc fence settled quota room
def muTk (n:Nat) (a:Act):Nat:=n-(match at_ a.tmps 8 with|.int _ z=>z.toNat|_=>0)
theorem take_any {w:World} {B g m1 m2:Nat} {os xs:List OpC} {pA:O} {pn pc:Nat} {lA:O} {ln lc:Nat} {fence settled quota room:Int} {A:O} {n cp:Nat} {S:Nat->Prop} (h:FoldAt w w B g m1 m2 os pA pn pc lA ln lc fence settled quota room) (ho:OpsIs w S A n cp xs) (hS:∀ b,S b->b≠g/\b≠m1/\b≠m2) (hfo:∀ o∈os,Fits o) (hfx:∀ o∈xs,Fits o) (hlen:os.length+xs.length<=100000) (hB:B<=w) :
 Calls prog 90 #[.pointer (some ⟨g,0,none⟩),.slice A n cp] w fun x w'=>x=.returned (.tuple #[])/\FoldAt w w' B g m1 m2 (os++xs) pA pn pc lA ln lc fence settled quota room:=by
 have hxl:=ho.len
 obtain⟨HF,HO⟩:=J2 h ho
 have round:∀ (Q:Z) (hexit:∀ a' w',a'.defers=[]->a'.tmps.size=73->FoldAt w w' B g m1 m2 (os++xs) pA pn pc lA ln lc fence settled quota room->Q (.exit 0) a' w')
  (a:Act) (w1:World),TkI w B g m1 m2 os xs pA pn pc lA ln lc fence settled quota room A n cp a w1->(∀ a' w',TkI w B g m1 m2 os xs pA pn pc lA ln lc fence settled quota room A n cp a' w'/\muTk n a'<muTk n a->Q .normal a' w')->(part [1,0,0] (codeOf takeFF)).wp prog Q a w1:=by
  intro Q hexit a w1 hI hQ
  obtain⟨k,hk,hf,hh⟩:=hI
  refine Wt ?_
  refine ft1 _ a hf fun a1 hf1=>?_
  show (part [1,0,0,1] (codeOf takeFF)).wp prog Q a1 w1
  refine Wt ?_
  refine wp_if (x:=part [1,0,0,1,0,0] (codeOf takeFF)) (y:=part [1,0,0,1,0,1] (codeOf takeFF)) (o:=.tmp 9) kr (eval_at hf1.2.2.2.2.2.2.1 rfl) (fun ht=>?_) fun ht=>?_
  ·have hk1:k<n:=of_decide_eq_true ht
   refine wp_nop kr ?_
   have hkept:Kept S w w1:=⟨hh.low.size,fun b s1 s2=>hh.others b s2 (hS b s1).1 (hS b s1).2.1 (hS b s1).2.2⟩
   obtain⟨ad,o,oA,on,oc,rfl,hab,hck,hop,hss⟩:=(HO.out.kept hkept).at_ hk1
   have hmem:=List.mem_of_getElem? hck
   have htk:os++xs.take (k+1)=(os++xs.take k)++[o]:=by rw [List.take_add_one,hck,List.append_assoc];rfl
   show (part [1,0,0,1,1] (codeOf takeFF)).wp prog Q a1 w1
   refine Wt ?_
   refine wp_blk (x:=part [1,0,0,1,1,0,0] (codeOf takeFF)) (id:=1) kr ?_
   refine ft_round _ a1 ⟨hf1.1,hf1.2.1,hf1.2.2.1,hf1.2.2.2.1,hf1.2.2.2.2.1,hf1.2.2.2.2.2.1,trivial⟩ hh hk1 hop (hfx o hmem) (fun o' ho'=>(List.mem_append.1 ho').elim (hfo o') fun h'=>hfx o' (List.mem_of_mem_take h')) (by rw [List.length_append,List.length_take];omega) hB fun a2 w2 hf2 h2=>?_
   have next:(part [1,0,0,1,1,1] (codeOf takeFF)).wp prog Q a2 w2:=by
    refine ft11 _ a2 hf2 (by omega) fun a3 hf3=>hQ a3 w2 ⟨⟨k+1,by omega,hf3,by rw [htk];exact h2⟩,?_⟩
    have e1:at_ a.tmps 8=.int .i64 (k:Nat):=hf.2.2.2.2.2.1
    have e2:at_ a3.tmps 8=.int .i64 ((k+1:Nat):Nat):=hf3.2.2.2.2.2.1
    unfold muTk
    rw [e1,e2]
    simp only [Int.toNat_natCast]
    omega
   exact⟨next,next⟩
  ·have hk1:¬ k<n:=of_decide_eq_false ht
   have e:part [1,0,0,1,0,1] (codeOf takeFF)=Code.exit 0:=by kernel_rfl
   rw [e]
   have hx:xs.take k=xs:=List.take_of_length_le (by omega)
   rw [hx] at hh
   exact wp_exit (hexit a1 w1 hf1.1 hf1.2.1 hh)
 obtain⟨HR,HX⟩:=J2 round hxl
 clear round h ho hS hfo hfx hlen hB hxl
 go_enter func90,ntmps90
 conv=>arg 2;arg 2;change part [1] (codeOf takeFF)
 go_wp2_with fail
 refine wp_blk (x:=part [1,0] (codeOf takeFF)) (id:=0) kr ?_
 have el:part [1,0] (codeOf takeFF)=Code.loop (part [1,0,0] (codeOf takeFF)):=by kernel_rfl
 rw [el]
 refine wp_loop (TkI w B g m1 m2 os xs pA pn pc lA ln lc fence settled quota room A n cp) (fun a _=>muTk n a) ⟨0,Nat.zero_le _,ff,by rw [List.take_zero,List.append_nil];exact HF.out⟩ fun a2 w2 hI=>?_
 refine HR.out _ ?_ a2 w2 hI ?_
 ·intro a' w' hd hs hh
  have hp:bodyPost prog takeFF (fun x w'=>x=.returned (.tuple #[])/\FoldAt w w' B g m1 m2 (os++xs) pA pn pc lA ln lc fence settled quota room) .normal a' w':=bodyPost_end (results_none rfl _ _ _) hd ⟨rfl,hh⟩
  exact hp
 ·exact fun a' w' hh=>hh
end Go.Proofs.Ytaipgdhdfpemcaa
