/- THE WALKS OF LaneEnds, part 6. -/
import Derived.Test.YtaipgdhdfpemcaaH1
namespace Go.Proofs.Ytaipgdhdfpemcaa
set_option linter.all false
open Go.RowKit Go.Proofs.Try
set_option maxRecDepth 100000
set_option maxHeartbeats 4000000
@[reducible] noncomputable def endsF:Func:=Try.f4
section
variable {w:World} {b5 ga gb lb n oc sn sc N i b16 b17 b18 b21:Nat} {oA sA:O} {mc mc1 cc1:Array Value} {wh:Int}
theorem ee17 (Q:Z) (a:Act) (hfr:Fr 170 a [(5,b5),(9,ga),(10,gb),(12,.slice oA n oc),(13,lb),(15,.slice sA sn sc),(86,.int .i64 (N:Nat)),(87,.int .i64 (i:Nat))]) (hQ:∀ a',Fr 170 a' [(5,b5),(9,ga),(10,gb),(12,.slice oA n oc),(13,lb),(15,.slice sA sn sc),(86,.int .i64 (N:Nat)),(87,.int .i64 (i:Nat)),(88,(decide (i<N)))]->Q .normal a' w):(part [1,1,1,1,1,1,1,1,1,1,1,1,0,1,0,0,0] (codeOf endsF)).wp prog Q a w:=by
 exact EY2
theorem ee27 (hi:i<4294967296) (Q:Z) (a:Act) (hfr:Fr 170 a [(5,b5),(9,ga),(10,gb),(12,.slice oA n oc),(13,lb),(15,.slice sA sn sc),(86,.int .i64 (N:Nat)),(87,.int .i64 (i:Nat))]) (hQ:∀ a',Fr 170 a' [(5,b5),(9,ga),(10,gb),(12,.slice oA n oc),(13,lb),(15,.slice sA sn sc),(86,.int .i64 (N:Nat)),(87,.int .i64 ((i+1:Nat):Nat))]->Q .normal a' w):(part [1,1,1,1,1,1,1,1,1,1,1,1,0,1,0,0,1,1,1] (codeOf endsF)).wp prog Q a w:=by
 exact EY14
theorem ee18 (Q:Z) (a:Act) (hfr:Fr 170 a [(5,b5),(9,ga),(10,gb),(12,.slice oA n oc),(13,lb),(15,.slice sA sn sc),(86,.int .i64 (N:Nat)),(87,.int .i64 (i:Nat))]) (M:Array Value->World->Prop) (hO:Calls prog 26 #[.pointer (some ⟨lb,0,none⟩),.slice oA n oc] w fun x w'=>∃ mc,x=.returned (.agg mc)/\M mc w') (hM:∀ mc w',M mc w'->mc.size=17/\mc.all (·.oneCell')=true)
 (hQ:∀ a' w1 w' mc,M mc w1->Fr 170 a' [(5,b5),(9,ga),(10,gb),(12,.slice oA n oc),(13,lb),(15,.slice sA sn sc),(16,(w1:Nat)),(86,.int .i64 (N:Nat)),(87,.int .i64 (i:Nat))]->Blk w' w1 30 mc->Below w1 w1 w'->Q .normal a' w'):(part [1,1,1,1,1,1,1,1,1,1,1,1,0,1,0,0,1,1,0,0,0] (codeOf endsF)).wp prog Q a w:=by
 obtain⟨HO,HM,HQ⟩:=J3 hO hM hQ
 clear hO hM hQ
 obtain⟨d,z0,f5,f9,f10,f12,f13,f15,f86,f87,-⟩:=hfr
 have z:=J z0
 have t5:=of_at f5
 have t9:=of_at f9
 have t10:=of_at f10
 have t12:=of_at f12
 have t13:=of_at f13
 have t15:=of_at f15
 have t86:=of_at f86
 have t87:=of_at f87
 clear z0 f5 f9 f10 f12 f13 f15 f86 f87
 refine wp_region_ops (id:=18) kr ?_
 conv=>arg 4;whnf
 refine wpl_v 89 (.pointer (some ⟨lb,0,none⟩)) (by rw [z.out];decide) fun a nx=>?_
 obtain⟨dd,zz,t89,oo⟩:=nx
 replace d:=dd.trans d
 replace z:=J (zz.trans z.out)
 replace t5:=(oo 5 (by decide)).trans t5
 replace t9:=(oo 9 (by decide)).trans t9
 replace t10:=(oo 10 (by decide)).trans t10
 replace t12:=(oo 12 (by decide)).trans t12
 replace t13:=(oo 13 (by decide)).trans t13
 replace t15:=(oo 15 (by decide)).trans t15
 replace t86:=(oo 86 (by decide)).trans t86
 replace t87:=(oo 87 (by decide)).trans t87
 clear dd zz oo
 conv=>arg 4;whnf
 refine wpl_v 90 (.slice oA n oc) (by rw [z.out];decide) fun a nx=>?_
 obtain⟨dd,zz,t90,oo⟩:=nx
 replace d:=dd.trans d
 replace z:=J (zz.trans z.out)
 replace t5:=(oo 5 (by decide)).trans t5
 replace t9:=(oo 9 (by decide)).trans t9
 replace t10:=(oo 10 (by decide)).trans t10
 replace t12:=(oo 12 (by decide)).trans t12
 replace t13:=(oo 13 (by decide)).trans t13
 replace t15:=(oo 15 (by decide)).trans t15
 replace t86:=(oo 86 (by decide)).trans t86
 replace t87:=(oo 87 (by decide)).trans t87
 replace t89:=(oo 89 (by decide)).trans t89
 clear dd zz oo
 conv=>arg 4;whnf
 refine wpl_e 91 26 #[.pointer (some ⟨lb,0,none⟩),.slice oA n oc] (by rw [z.out];decide) (by unfold execOp;go_simp) ?_
 refine HO.out.mono ?_
 rintro x w1 ⟨mc,rfl,hm⟩
 have hmm:=HM.out mc w1 hm
 refine⟨_,rfl,fun a nx=>?_⟩
 obtain⟨dd,zz,t91,oo⟩:=nx
 replace d:=dd.trans d
 replace z:=J (zz.trans z.out)
 replace t5:=(oo 5 (by decide)).trans t5
 replace t9:=(oo 9 (by decide)).trans t9
 replace t10:=(oo 10 (by decide)).trans t10
 replace t12:=(oo 12 (by decide)).trans t12
 replace t13:=(oo 13 (by decide)).trans t13
 replace t15:=(oo 15 (by decide)).trans t15
 replace t86:=(oo 86 (by decide)).trans t86
 replace t87:=(oo 87 (by decide)).trans t87
 clear dd zz oo t89 t90
 conv=>arg 4;whnf
 refine wpl_w 16 (.pointer (some ⟨w1.heap.size,0,none⟩)) (w1.alloc (.cells noMail 30)) (by rw [z.out];decide) fun a nx=>?_
 obtain⟨dd,zz,t16,oo⟩:=nx
 replace d:=dd.trans d
 replace z:=J (zz.trans z.out)
 replace t5:=(oo 5 (by decide)).trans t5
 replace t9:=(oo 9 (by decide)).trans t9
 replace t10:=(oo 10 (by decide)).trans t10
 replace t12:=(oo 12 (by decide)).trans t12
 replace t13:=(oo 13 (by decide)).trans t13
 replace t15:=(oo 15 (by decide)).trans t15
 replace t86:=(oo 86 (by decide)).trans t86
 replace t87:=(oo 87 (by decide)).trans t87
 replace t91:=(oo 91 (by decide)).trans t91
 clear dd zz oo
 conv=>arg 4;whnf
 refine wpl_tb 30 (.tmp 16) (.tmp 91) w1.heap.size noMail mc (ev_at t16) (ev_at t91) (Blk.new _ _ _) (by rw [hmm.1];rfl) (by rw [hmm.1];exact Try.sizeMail) hmm.2 ?_
 clear t91
 conv=>arg 4;whnf
 exact HQ.out a w1 _ mc hm ⟨d,z.out,at_of t5,at_of t9,at_of t10,at_of t12,at_of t13,at_of t15,at_of t16,at_of t86,at_of t87,trivial⟩ ((Blk.new w1 30 noMail).setCells_ mc.toList (by rw [Array.length_toList,hmm.1];rfl)) (below_setCells (Nat.le_refl _) ((Below.refl _ _).alloc (Nat.le_refl _) _) _ _)
theorem ee19 (Q:Z) (a:Act) (hfr:Fr 170 a [(5,b5),(9,ga),(10,gb),(12,.slice oA n oc),(13,lb),(15,.slice sA sn sc),(16,b16),(86,.int .i64 (N:Nat)),(87,.int .i64 (i:Nat))]) (hb:Blk w b16 30 mc) (h17:mc.size=17) (hC:Calls prog 27 #[.agg mc] w fun x w'=>x=.returned (.int .i64 0)/\Below w w w')
 (hQ:∀ a' w',Fr 170 a' [(5,b5),(9,ga),(10,gb),(12,.slice oA n oc),(13,lb),(15,.slice sA sn sc),(16,b16),(86,.int .i64 (N:Nat)),(87,.int .i64 (i:Nat)),(94,false)]->Below w w w'->Q .normal a' w'):(part [1,1,1,1,1,1,1,1,1,1,1,1,0,1,0,0,1,1,0,0,1,0,0] (codeOf endsF)).wp prog Q a w:=by
 obtain⟨HB,H17,HC,HQ⟩:=J4 hb h17 hC hQ
 clear hb h17 hC hQ
 obtain⟨d,z0,f5,f9,f10,f12,f13,f15,f16,f86,f87,-⟩:=hfr
 have z:=J z0
 have t5:=of_at f5
 have t9:=of_at f9
 have t10:=of_at f10
 have t12:=of_at f12
 have t13:=of_at f13
 have t15:=of_at f15
 have t16:=of_at f16
 have t86:=of_at f86
 have t87:=of_at f87
 clear z0 f5 f9 f10 f12 f13 f15 f16 f86 f87
 refine wp_region_ops (id:=19) kr ?_
 conv=>arg 4;whnf
 refine wpl_lb 92 30 (.tmp 16) b16 mc _ (by rw [z.out];decide) (ev_at t16) HB.out underlying30 (by rw [H17.out];exact Try.sizeMail) fun a nx=>?_
 obtain⟨dd,zz,t92,oo⟩:=nx
 replace d:=dd.trans d
 replace z:=J (zz.trans z.out)
 replace t5:=(oo 5 (by decide)).trans t5
 replace t9:=(oo 9 (by decide)).trans t9
 replace t10:=(oo 10 (by decide)).trans t10
 replace t12:=(oo 12 (by decide)).trans t12
 replace t13:=(oo 13 (by decide)).trans t13
 replace t15:=(oo 15 (by decide)).trans t15
 replace t16:=(oo 16 (by decide)).trans t16
 replace t86:=(oo 86 (by decide)).trans t86
 replace t87:=(oo 87 (by decide)).trans t87
 clear dd zz oo
 conv=>arg 4;whnf
 refine wpl_e 93 27 #[.agg mc] (by rw [z.out];decide) (by unfold execOp;go_simp) ?_
 refine HC.out.mono ?_
 rintro x w1 ⟨rfl,hb1⟩
 refine⟨_,rfl,fun a nx=>?_⟩
 obtain⟨dd,zz,t93,oo⟩:=nx
 replace d:=dd.trans d
 replace z:=J (zz.trans z.out)
 replace t5:=(oo 5 (by decide)).trans t5
 replace t9:=(oo 9 (by decide)).trans t9
 replace t10:=(oo 10 (by decide)).trans t10
 replace t12:=(oo 12 (by decide)).trans t12
 replace t13:=(oo 13 (by decide)).trans t13
 replace t15:=(oo 15 (by decide)).trans t15
 replace t16:=(oo 16 (by decide)).trans t16
 replace t86:=(oo 86 (by decide)).trans t86
 replace t87:=(oo 87 (by decide)).trans t87
 clear dd zz oo t92
 conv=>arg 4;whnf
 refine wpl_v 94 (.bool false) (by rw [z.out];decide) fun a nx=>?_
 obtain⟨dd,zz,t94,oo⟩:=nx
 replace d:=dd.trans d
 replace z:=J (zz.trans z.out)
 replace t5:=(oo 5 (by decide)).trans t5
 replace t9:=(oo 9 (by decide)).trans t9
 replace t10:=(oo 10 (by decide)).trans t10
 replace t12:=(oo 12 (by decide)).trans t12
 replace t13:=(oo 13 (by decide)).trans t13
 replace t15:=(oo 15 (by decide)).trans t15
 replace t16:=(oo 16 (by decide)).trans t16
 replace t86:=(oo 86 (by decide)).trans t86
 replace t87:=(oo 87 (by decide)).trans t87
 clear dd zz oo t93
 conv=>arg 4;whnf
 exact HQ.out a w1 ⟨d,z.out,at_of t5,at_of t9,at_of t10,at_of t12,at_of t13,at_of t15,at_of t16,at_of t86,at_of t87,at_of t94,trivial⟩ hb1
theorem ee21 {mE mS mN mF:Int} {pA:O} {pn pc:Nat} (Q:Z) (a:Act) (hfr:Fr 170 a [(5,b5),(9,ga),(10,gb),(12,.slice oA n oc),(13,lb),(15,.slice sA sn sc),(16,b16),(86,.int .i64 (N:Nat)),(87,.int .i64 (i:Nat))]) (hb:Blk w b16 30 (mailC 9 0 0 0 0 false none 0 0 ⟨#[]⟩ none 0 0 mE mS mN mF 0 0 none 0 0 pA pn pc)) (R:O->Nat->World->Prop)
 (hA:∃ sA2 sc2 w',(Builtin.append_ #[72,72] 72 #[.slice sA sn sc,.slice (some ⟨w.heap.size,0,none⟩) 1 1]).run prog (w.alloc (.cells (mailC 9 0 0 0 0 false none 0 0 ⟨#[]⟩ none 0 0 mE mS mN mF 0 0 none 0 0 pA pn pc) 30))=.ok (.slice sA2 (sn+1) sc2) w'/\R sA2 sc2 w')
 (hQ:∀ a' w' sA2 sc2,R sA2 sc2 w'->Fr 170 a' [(5,b5),(9,ga),(10,gb),(12,.slice oA n oc),(13,lb),(15,.slice sA2 (sn+1) sc2),(16,b16),(86,.int .i64 (N:Nat)),(87,.int .i64 (i:Nat))]->Q .normal a' w'):(part [1,1,1,1,1,1,1,1,1,1,1,1,0,1,0,0,1,1,0,0,1,1,0] (codeOf endsF)).wp prog Q a w:=by
 obtain⟨sA2,sc2,w2,hrun,hr⟩:=hA
 obtain⟨HB,HRUN,HR,HQ⟩:=J4 hb hrun hr hQ
 clear hb hrun hr hQ
 obtain⟨d,z0,f5,f9,f10,f12,f13,f15,f16,f86,f87,-⟩:=hfr
 have z:=J z0
 have t5:=of_at f5
 have t9:=of_at f9
 have t10:=of_at f10
 have t12:=of_at f12
 have t13:=of_at f13
 have t15:=of_at f15
 have t16:=of_at f16
 have t86:=of_at f86
 have t87:=of_at f87
 clear z0 f5 f9 f10 f12 f13 f15 f16 f86 f87
 refine wp_region_ops (id:=21) kr ?_
 conv=>arg 4;whnf
 refine wpl_v 95 (.slice sA sn sc) (by rw [z.out];decide) fun a nx=>?_
 obtain⟨dd,zz,t95,oo⟩:=nx
 replace d:=dd.trans d
 replace z:=J (zz.trans z.out)
 replace t5:=(oo 5 (by decide)).trans t5
 replace t9:=(oo 9 (by decide)).trans t9
 replace t10:=(oo 10 (by decide)).trans t10
 replace t12:=(oo 12 (by decide)).trans t12
 replace t13:=(oo 13 (by decide)).trans t13
 replace t16:=(oo 16 (by decide)).trans t16
 replace t86:=(oo 86 (by decide)).trans t86
 replace t87:=(oo 87 (by decide)).trans t87
 clear dd zz oo t15
 conv=>arg 4;whnf
 refine wpl_lb 96 30 (.tmp 16) b16 (mailC 9 0 0 0 0 false none 0 0 ⟨#[]⟩ none 0 0 mE mS mN mF 0 0 none 0 0 pA pn pc) _ (by rw [z.out];decide) (ev_at t16) HB.out underlying30 Try.sizeMail fun a nx=>?_
 obtain⟨dd,zz,t96,oo⟩:=nx
 replace d:=dd.trans d
 replace z:=J (zz.trans z.out)
 replace t5:=(oo 5 (by decide)).trans t5
 replace t9:=(oo 9 (by decide)).trans t9
 replace t10:=(oo 10 (by decide)).trans t10
 replace t12:=(oo 12 (by decide)).trans t12
 replace t13:=(oo 13 (by decide)).trans t13
 replace t16:=(oo 16 (by decide)).trans t16
 replace t86:=(oo 86 (by decide)).trans t86
 replace t87:=(oo 87 (by decide)).trans t87
 replace t95:=(oo 95 (by decide)).trans t95
 clear dd zz oo
 conv=>arg 4;whnf
 refine wpl_w 97 (.slice (some ⟨w.heap.size,0,none⟩) 1 1) (w.alloc (.cells (mailC 9 0 0 0 0 false none 0 0 ⟨#[]⟩ none 0 0 mE mS mN mF 0 0 none 0 0 pA pn pc) 30)) (by rw [z.out];decide) fun a nx=>?_
 obtain⟨dd,zz,t97,oo⟩:=nx
 replace d:=dd.trans d
 replace z:=J (zz.trans z.out)
 replace t5:=(oo 5 (by decide)).trans t5
 replace t9:=(oo 9 (by decide)).trans t9
 replace t10:=(oo 10 (by decide)).trans t10
 replace t12:=(oo 12 (by decide)).trans t12
 replace t13:=(oo 13 (by decide)).trans t13
 replace t16:=(oo 16 (by decide)).trans t16
 replace t86:=(oo 86 (by decide)).trans t86
 replace t87:=(oo 87 (by decide)).trans t87
 replace t95:=(oo 95 (by decide)).trans t95
 clear dd zz oo t96
 conv=>arg 4;whnf
 have e95:=ev_at t95
 have e97:=ev_at t97
 have hrun:=HRUN.out
 refine wpl_w 98 (.slice sA2 (sn+1) sc2) w2 (by rw [z.out];decide) (h:=by unfold execOp;simp [resolve,invoke,builtin,e95,e97,hrun,Result.andThen]) fun a nx=>?_
 clear e95 e97 hrun
 obtain⟨dd,zz,t98,oo⟩:=nx
 replace d:=dd.trans d
 replace z:=J (zz.trans z.out)
 replace t5:=(oo 5 (by decide)).trans t5
 replace t9:=(oo 9 (by decide)).trans t9
 replace t10:=(oo 10 (by decide)).trans t10
 replace t12:=(oo 12 (by decide)).trans t12
 replace t13:=(oo 13 (by decide)).trans t13
 replace t16:=(oo 16 (by decide)).trans t16
 replace t86:=(oo 86 (by decide)).trans t86
 replace t87:=(oo 87 (by decide)).trans t87
 clear dd zz oo t95 t97
 conv=>arg 4;whnf
 refine wpl_v 15 (.slice sA2 (sn+1) sc2) (by rw [z.out];decide) fun a nx=>?_
 obtain⟨dd,zz,t15,oo⟩:=nx
 replace d:=dd.trans d
 replace z:=J (zz.trans z.out)
 replace t5:=(oo 5 (by decide)).trans t5
 replace t9:=(oo 9 (by decide)).trans t9
 replace t10:=(oo 10 (by decide)).trans t10
 replace t12:=(oo 12 (by decide)).trans t12
 replace t13:=(oo 13 (by decide)).trans t13
 replace t16:=(oo 16 (by decide)).trans t16
 replace t86:=(oo 86 (by decide)).trans t86
 replace t87:=(oo 87 (by decide)).trans t87
 clear dd zz oo t98
 conv=>arg 4;whnf
 exact HQ.out a w2 sA2 sc2 HR.out ⟨d,z.out,at_of t5,at_of t9,at_of t10,at_of t12,at_of t13,at_of t15,at_of t16,at_of t86,at_of t87,trivial⟩
theorem mail_size {w:World} {S:Nat->Prop} {cs:Array Value} {m:MailC} (h:MailIs w S cs m):cs.size=17/\cs.all (·.oneCell')=true:=by
 obtain⟨eA,en,ec,hA,hn,hc,oA,on,oc,pA,pn,pc,rfl,_⟩:=h
 exact⟨rfl,mailC_one⟩
theorem cmd_size {w:World} {S:Nat->Prop} {cs:Array Value} {c:CmdC} (h:CmdIs w S cs c):cs.size=16/\cs.all (·.oneCell')=true:=by
 obtain⟨hA,hn,hc,pA,pn,pc,rfl,_⟩:=h
 exact⟨rfl,cmdC_one⟩
theorem meet_box (w1:World) (mc1:Array Value):Blk (((w1.alloc (.cells noMail 30)).alloc (.cells noCmd 47)).setCells w1.heap.size 0 mc1.toList) (w1.heap.size+1) 47 noCmd:=by
 have hn:=Blk.new (w1.alloc (.cells noMail 30)) 47 noCmd
 rw [show (w1.alloc (.cells noMail 30)).heap.size=w1.heap.size+1 by simp] at hn
 exact (save_setCells ((w1.alloc (.cells noMail 30)).alloc (.cells noCmd 47)) w1.heap.size 0 mc1.toList).blk hn (by omega)
theorem meet_end (w1:World) (mc1 cc1:Array Value) (s17:mc1.size=17) (s16:cc1.size=16) :
 Blk ((((w1.alloc (.cells noMail 30)).alloc (.cells noCmd 47)).setCells w1.heap.size 0 mc1.toList).setCells (w1.heap.size+1) 0 cc1.toList) w1.heap.size 30 mc1/\
 Blk ((((w1.alloc (.cells noMail 30)).alloc (.cells noCmd 47)).setCells w1.heap.size 0 mc1.toList).setCells (w1.heap.size+1) 0 cc1.toList) (w1.heap.size+1) 47 cc1/\
 Below w1 w1 ((((w1.alloc (.cells noMail 30)).alloc (.cells noCmd 47)).setCells w1.heap.size 0 mc1.toList).setCells (w1.heap.size+1) 0 cc1.toList):=by
 have h1:=((Blk.new w1 30 noMail).alloc (.cells noCmd 47)).setCells_ mc1.toList (by rw [Array.length_toList,s17];rfl)
 refine⟨(save_setCells (((w1.alloc (.cells noMail 30)).alloc (.cells noCmd 47)).setCells w1.heap.size 0 mc1.toList) (w1.heap.size+1) 0 cc1.toList).blk h1 (by omega),(meet_box w1 mc1).setCells_ cc1.toList (by rw [Array.length_toList,s16];rfl),?_⟩
 exact below_setCells (by omega) (below_setCells (Nat.le_refl _) (((Below.refl _ _).alloc (Nat.le_refl _) _).alloc (by simp) _) 0 mc1.toList) 0 cc1.toList
theorem ee22 {p:MailC×CmdC×Int} {rN rE:Int} {jA:O} {jn jc:Nat} (Q:Z) (a:Act) (hfr:Fr 170 a [(5,b5),(9,ga),(10,gb),(12,.slice oA n oc),(13,lb),(15,.slice sA sn sc),(16,b16),(86,.int .i64 (N:Nat)),(87,.int .i64 (i:Nat))]) (hb:Blk w b16 30 mc) (h17:mc.size=17) (h5:Blk w b5 32 #[rN,rE,.slice jA jn jc]) (hM:Calls prog 16 #[.pointer (some ⟨gb,0,none⟩),.agg mc,.agg #[rN,rE,.slice jA jn jc]] w (MeetR w p))
 (hQ:∀ a' (w1 w':World) mc1 cc1,Fr 170 a' [(5,b5),(9,ga),(10,gb),(12,.slice oA n oc),(13,lb),(15,.slice sA sn sc),(17,(w1:Nat)),(18,.pointer (some ⟨(w1.heap.size+1),0,none⟩)),(19,.int .i64 p.2.2),(86,.int .i64 (N:Nat)),(87,.int .i64 (i:Nat))]->w.heap.size<=w1.heap.size->Blk w' w1 30 mc1->Blk w' (w1.heap.size+1) 47 cc1->MailIs w' (From w.heap.size) mc1 p.1->CmdIs w' (From w.heap.size) cc1 p.2.1->Below w w w'->Q .normal a' w'):(part [1,1,1,1,1,1,1,1,1,1,1,1,0,1,0,0,1,1,0,0,1,1,1,0] (codeOf endsF)).wp prog Q a w:=by
 obtain⟨HB,H17,H5,HM,HQ⟩:=J5 hb h17 h5 hM hQ
 clear hb h17 h5 hM hQ
 obtain⟨d,z0,f5,f9,f10,f12,f13,f15,f16,f86,f87,-⟩:=hfr
 have z:=J z0
 have t5:=of_at f5
 have t9:=of_at f9
 have t10:=of_at f10
 have t12:=of_at f12
 have t13:=of_at f13
 have t15:=of_at f15
 have t16:=of_at f16
 have t86:=of_at f86
 have t87:=of_at f87
 clear z0 f5 f9 f10 f12 f13 f15 f16 f86 f87
 refine wp_region_ops (id:=22) kr ?_
 conv=>arg 4;whnf
 refine wpl_v 100 (.pointer (some ⟨gb,0,none⟩)) (by rw [z.out];decide) fun a nx=>?_
 obtain⟨dd,zz,t100,oo⟩:=nx
 replace d:=dd.trans d
 replace z:=J (zz.trans z.out)
 replace t5:=(oo 5 (by decide)).trans t5
 replace t9:=(oo 9 (by decide)).trans t9
 replace t10:=(oo 10 (by decide)).trans t10
 replace t12:=(oo 12 (by decide)).trans t12
 replace t13:=(oo 13 (by decide)).trans t13
 replace t15:=(oo 15 (by decide)).trans t15
 replace t16:=(oo 16 (by decide)).trans t16
 replace t86:=(oo 86 (by decide)).trans t86
 replace t87:=(oo 87 (by decide)).trans t87
 clear dd zz oo
 conv=>arg 4;whnf
 refine wpl_lb 101 30 (.tmp 16) b16 mc _ (by rw [z.out];decide) (ev_at t16) HB.out underlying30 (by rw [H17.out];exact Try.sizeMail) fun a nx=>?_
 obtain⟨dd,zz,t101,oo⟩:=nx
 replace d:=dd.trans d
 replace z:=J (zz.trans z.out)
 replace t5:=(oo 5 (by decide)).trans t5
 replace t9:=(oo 9 (by decide)).trans t9
 replace t10:=(oo 10 (by decide)).trans t10
 replace t12:=(oo 12 (by decide)).trans t12
 replace t13:=(oo 13 (by decide)).trans t13
 replace t15:=(oo 15 (by decide)).trans t15
 replace t86:=(oo 86 (by decide)).trans t86
 replace t87:=(oo 87 (by decide)).trans t87
 replace t100:=(oo 100 (by decide)).trans t100
 clear dd zz oo t16
 conv=>arg 4;whnf
 refine wpl_lb 102 32 (.tmp 5) b5 #[rN,rE,.slice jA jn jc] _ (by rw [z.out];decide) (ev_at t5) H5.out underlying32 kr fun a nx=>?_
 obtain⟨dd,zz,t102,oo⟩:=nx
 replace d:=dd.trans d
 replace z:=J (zz.trans z.out)
 replace t5:=(oo 5 (by decide)).trans t5
 replace t9:=(oo 9 (by decide)).trans t9
 replace t10:=(oo 10 (by decide)).trans t10
 replace t12:=(oo 12 (by decide)).trans t12
 replace t13:=(oo 13 (by decide)).trans t13
 replace t15:=(oo 15 (by decide)).trans t15
 replace t86:=(oo 86 (by decide)).trans t86
 replace t87:=(oo 87 (by decide)).trans t87
 replace t100:=(oo 100 (by decide)).trans t100
 replace t101:=(oo 101 (by decide)).trans t101
 clear dd zz oo
 conv=>arg 4;whnf
 refine wpl_e 103 16 #[.pointer (some ⟨gb,0,none⟩),.agg mc,.agg #[rN,rE,.slice jA jn jc]] (by rw [z.out];decide) (by unfold execOp;go_simp) ?_
 refine HM.out.mono ?_
 rintro x w1 ⟨mc1,cc1,rfl,hm1,hc1,hb1⟩
 obtain⟨s17,o17⟩:=mail_size hm1
 obtain⟨s16,o16⟩:=cmd_size hc1
 refine⟨_,rfl,fun a nx=>?_⟩
 obtain⟨dd,zz,t103,oo⟩:=nx
 replace d:=dd.trans d
 replace z:=J (zz.trans z.out)
 replace t5:=(oo 5 (by decide)).trans t5
 replace t9:=(oo 9 (by decide)).trans t9
 replace t10:=(oo 10 (by decide)).trans t10
 replace t12:=(oo 12 (by decide)).trans t12
 replace t13:=(oo 13 (by decide)).trans t13
 replace t15:=(oo 15 (by decide)).trans t15
 replace t86:=(oo 86 (by decide)).trans t86
 replace t87:=(oo 87 (by decide)).trans t87
 clear dd zz oo t100 t101 t102
 conv=>arg 4;whnf
 refine wpl_v 99 (.tuple #[.agg mc1,.agg cc1,.int .i64 p.2.2]) (by rw [z.out];decide) fun a nx=>?_
 obtain⟨dd,zz,t99,oo⟩:=nx
 replace d:=dd.trans d
 replace z:=J (zz.trans z.out)
 replace t5:=(oo 5 (by decide)).trans t5
 replace t9:=(oo 9 (by decide)).trans t9
 replace t10:=(oo 10 (by decide)).trans t10
 replace t12:=(oo 12 (by decide)).trans t12
 replace t13:=(oo 13 (by decide)).trans t13
 replace t15:=(oo 15 (by decide)).trans t15
 replace t86:=(oo 86 (by decide)).trans t86
 replace t87:=(oo 87 (by decide)).trans t87
 clear dd zz oo t103
 conv=>arg 4;whnf
 refine wpl_v 104 (.agg mc1) (by rw [z.out];decide) fun a nx=>?_
 obtain⟨dd,zz,t104,oo⟩:=nx
 replace d:=dd.trans d
 replace z:=J (zz.trans z.out)
 replace t5:=(oo 5 (by decide)).trans t5
 replace t9:=(oo 9 (by decide)).trans t9
 replace t10:=(oo 10 (by decide)).trans t10
 replace t12:=(oo 12 (by decide)).trans t12
 replace t13:=(oo 13 (by decide)).trans t13
 replace t15:=(oo 15 (by decide)).trans t15
 replace t86:=(oo 86 (by decide)).trans t86
 replace t87:=(oo 87 (by decide)).trans t87
 replace t99:=(oo 99 (by decide)).trans t99
 clear dd zz oo
 conv=>arg 4;whnf
 refine wpl_v 105 (.agg cc1) (by rw [z.out];decide) fun a nx=>?_
 obtain⟨dd,zz,t105,oo⟩:=nx
 replace d:=dd.trans d
 replace z:=J (zz.trans z.out)
 replace t5:=(oo 5 (by decide)).trans t5
 replace t9:=(oo 9 (by decide)).trans t9
 replace t10:=(oo 10 (by decide)).trans t10
 replace t12:=(oo 12 (by decide)).trans t12
 replace t13:=(oo 13 (by decide)).trans t13
 replace t15:=(oo 15 (by decide)).trans t15
 replace t86:=(oo 86 (by decide)).trans t86
 replace t87:=(oo 87 (by decide)).trans t87
 replace t99:=(oo 99 (by decide)).trans t99
 replace t104:=(oo 104 (by decide)).trans t104
 clear dd zz oo
 conv=>arg 4;whnf
 refine wpl_v 106 (.int .i64 p.2.2) (by rw [z.out];decide) fun a nx=>?_
 obtain⟨dd,zz,t106,oo⟩:=nx
 replace d:=dd.trans d
 replace z:=J (zz.trans z.out)
 replace t5:=(oo 5 (by decide)).trans t5
 replace t9:=(oo 9 (by decide)).trans t9
 replace t10:=(oo 10 (by decide)).trans t10
 replace t12:=(oo 12 (by decide)).trans t12
 replace t13:=(oo 13 (by decide)).trans t13
 replace t15:=(oo 15 (by decide)).trans t15
 replace t86:=(oo 86 (by decide)).trans t86
 replace t87:=(oo 87 (by decide)).trans t87
 replace t104:=(oo 104 (by decide)).trans t104
 replace t105:=(oo 105 (by decide)).trans t105
 clear dd zz oo t99
 conv=>arg 4;whnf
 refine wpl_w 17 (.pointer (some ⟨w1.heap.size,0,none⟩)) (w1.alloc (.cells noMail 30)) (by rw [z.out];decide) fun a nx=>?_
 obtain⟨dd,zz,t17,oo⟩:=nx
 replace d:=dd.trans d
 replace z:=J (zz.trans z.out)
 replace t5:=(oo 5 (by decide)).trans t5
 replace t9:=(oo 9 (by decide)).trans t9
 replace t10:=(oo 10 (by decide)).trans t10
 replace t12:=(oo 12 (by decide)).trans t12
 replace t13:=(oo 13 (by decide)).trans t13
 replace t15:=(oo 15 (by decide)).trans t15
 replace t86:=(oo 86 (by decide)).trans t86
 replace t87:=(oo 87 (by decide)).trans t87
 replace t104:=(oo 104 (by decide)).trans t104
 replace t105:=(oo 105 (by decide)).trans t105
 replace t106:=(oo 106 (by decide)).trans t106
 clear dd zz oo
 conv=>arg 4;whnf
 refine wpl_w 18 (.pointer (some ⟨(w1.heap.size+1),0,none⟩)) ((w1.alloc (.cells noMail 30)).alloc (.cells noCmd 47)) (by rw [z.out];decide) fun a nx=>?_
 obtain⟨dd,zz,t18,oo⟩:=nx
 replace d:=dd.trans d
 replace z:=J (zz.trans z.out)
 replace t5:=(oo 5 (by decide)).trans t5
 replace t9:=(oo 9 (by decide)).trans t9
 replace t10:=(oo 10 (by decide)).trans t10
 replace t12:=(oo 12 (by decide)).trans t12
 replace t13:=(oo 13 (by decide)).trans t13
 replace t15:=(oo 15 (by decide)).trans t15
 replace t17:=(oo 17 (by decide)).trans t17
 replace t86:=(oo 86 (by decide)).trans t86
 replace t87:=(oo 87 (by decide)).trans t87
 replace t104:=(oo 104 (by decide)).trans t104
 replace t105:=(oo 105 (by decide)).trans t105
 replace t106:=(oo 106 (by decide)).trans t106
 clear dd zz oo
 conv=>arg 4;whnf
 refine wpl_tb 30 (.tmp 17) (.tmp 104) w1.heap.size noMail mc1 (ev_at t17) (ev_at t104) ((Blk.new w1 30 noMail).alloc _) (by rw [s17];rfl) (by rw [s17];exact Try.sizeMail) o17 ?_
 clear t104
 conv=>arg 4;whnf
 refine wpl_tb 47 (.tmp 18) (.tmp 105) (w1.heap.size+1) noCmd cc1 (ev_at t18) (ev_at t105) (meet_box w1 mc1) (by rw [s16];rfl) (by rw [s16];exact Try.sizeCmd) o16 ?_
 clear t105
 conv=>arg 4;whnf
 refine wpl_v 19 (.int .i64 p.2.2) (by rw [z.out];decide) fun a nx=>?_
 obtain⟨dd,zz,t19,oo⟩:=nx
 replace d:=dd.trans d
 replace z:=J (zz.trans z.out)
 replace t5:=(oo 5 (by decide)).trans t5
 replace t9:=(oo 9 (by decide)).trans t9
 replace t10:=(oo 10 (by decide)).trans t10
 replace t12:=(oo 12 (by decide)).trans t12
 replace t13:=(oo 13 (by decide)).trans t13
 replace t15:=(oo 15 (by decide)).trans t15
 replace t17:=(oo 17 (by decide)).trans t17
 replace t18:=(oo 18 (by decide)).trans t18
 replace t86:=(oo 86 (by decide)).trans t86
 replace t87:=(oo 87 (by decide)).trans t87
 clear dd zz oo t106
 conv=>arg 4;whnf
 obtain⟨q1,q2,q3⟩:=meet_end w1 mc1 cc1 s17 s16
 exact HQ.out a w1 _ mc1 cc1 ⟨d,z.out,at_of t5,at_of t9,at_of t10,at_of t12,at_of t13,at_of t15,at_of t17,at_of t18,at_of t19,at_of t86,at_of t87,trivial⟩ hb1.size q1 q2 (hm1.below q3) (hc1.below q3) (hb1.trans (q3.mono hb1.size))
theorem ee33 {p:MailC×CmdC×Int} {rN rE:Int} {jA:O} {jn jc:Nat} (Q:Z) (a:Act) (hfr:Fr 170 a [(5,b5),(9,ga),(10,gb),(12,.slice oA n oc),(13,lb),(21,b16),(138,.slice sA sn sc),(139,.int .i64 (sn:Nat)),(140,.int .i64 (i:Nat))]) (hb:Blk w b16 30 mc) (h17:mc.size=17) (h5:Blk w b5 32 #[rN,rE,.slice jA jn jc]) (hM:Calls prog 16 #[.pointer (some ⟨gb,0,none⟩),.agg mc,.agg #[rN,rE,.slice jA jn jc]] w (MeetR w p))
 (hQ:∀ a' (w1 w':World) mc1 cc1,Fr 170 a' [(5,b5),(9,ga),(10,gb),(12,.slice oA n oc),(13,lb),(22,(w1:Nat)),(23,.pointer (some ⟨(w1.heap.size+1),0,none⟩)),(24,.int .i64 p.2.2),(138,.slice sA sn sc),(139,.int .i64 (sn:Nat)),(140,.int .i64 (i:Nat))]->w.heap.size<=w1.heap.size->Blk w' w1 30 mc1->Blk w' (w1.heap.size+1) 47 cc1->MailIs w' (From w.heap.size) mc1 p.1->CmdIs w' (From w.heap.size) cc1 p.2.1->Below w w w'->Q .normal a' w'):(part [1,1,1,1,1,1,1,1,1,1,1,1,1,1,0,1,0,0,1,1,0,0,1,0] (codeOf endsF)).wp prog Q a w:=by
 obtain⟨HB,H17,H5,HM,HQ⟩:=J5 hb h17 h5 hM hQ
 clear hb h17 h5 hM hQ
 obtain⟨d,z0,f5,f9,f10,f12,f13,f21,f138,f139,f140,-⟩:=hfr
 have z:=J z0
 have t5:=of_at f5
 have t9:=of_at f9
 have t10:=of_at f10
 have t12:=of_at f12
 have t13:=of_at f13
 have t21:=of_at f21
 have t138:=of_at f138
 have t139:=of_at f139
 have t140:=of_at f140
 clear z0 f5 f9 f10 f12 f13 f21 f138 f139 f140
 refine wp_region_ops (id:=33) kr ?_
 conv=>arg 4;whnf
 refine wpl_v 145 (.pointer (some ⟨gb,0,none⟩)) (by rw [z.out];decide) fun a nx=>?_
 obtain⟨dd,zz,t145,oo⟩:=nx
 replace d:=dd.trans d
 replace z:=J (zz.trans z.out)
 replace t5:=(oo 5 (by decide)).trans t5
 replace t9:=(oo 9 (by decide)).trans t9
 replace t10:=(oo 10 (by decide)).trans t10
 replace t12:=(oo 12 (by decide)).trans t12
 replace t13:=(oo 13 (by decide)).trans t13
 replace t21:=(oo 21 (by decide)).trans t21
 replace t138:=(oo 138 (by decide)).trans t138
 replace t139:=(oo 139 (by decide)).trans t139
 replace t140:=(oo 140 (by decide)).trans t140
 clear dd zz oo
 conv=>arg 4;whnf
 refine wpl_lb 146 30 (.tmp 21) b16 mc _ (by rw [z.out];decide) (ev_at t21) HB.out underlying30 (by rw [H17.out];exact Try.sizeMail) fun a nx=>?_
 obtain⟨dd,zz,t146,oo⟩:=nx
 replace d:=dd.trans d
 replace z:=J (zz.trans z.out)
 replace t5:=(oo 5 (by decide)).trans t5
 replace t9:=(oo 9 (by decide)).trans t9
 replace t10:=(oo 10 (by decide)).trans t10
 replace t12:=(oo 12 (by decide)).trans t12
 replace t13:=(oo 13 (by decide)).trans t13
 replace t138:=(oo 138 (by decide)).trans t138
 replace t139:=(oo 139 (by decide)).trans t139
 replace t140:=(oo 140 (by decide)).trans t140
 replace t145:=(oo 145 (by decide)).trans t145
 clear dd zz oo t21
 conv=>arg 4;whnf
 refine wpl_lb 147 32 (.tmp 5) b5 #[rN,rE,.slice jA jn jc] _ (by rw [z.out];decide) (ev_at t5) H5.out underlying32 kr fun a nx=>?_
 obtain⟨dd,zz,t147,oo⟩:=nx
 replace d:=dd.trans d
 replace z:=J (zz.trans z.out)
 replace t5:=(oo 5 (by decide)).trans t5
 replace t9:=(oo 9 (by decide)).trans t9
 replace t10:=(oo 10 (by decide)).trans t10
 replace t12:=(oo 12 (by decide)).trans t12
 replace t13:=(oo 13 (by decide)).trans t13
 replace t138:=(oo 138 (by decide)).trans t138
 replace t139:=(oo 139 (by decide)).trans t139
 replace t140:=(oo 140 (by decide)).trans t140
 replace t145:=(oo 145 (by decide)).trans t145
 replace t146:=(oo 146 (by decide)).trans t146
 clear dd zz oo
 conv=>arg 4;whnf
 refine wpl_e 148 16 #[.pointer (some ⟨gb,0,none⟩),.agg mc,.agg #[rN,rE,.slice jA jn jc]] (by rw [z.out];decide) (by unfold execOp;go_simp) ?_
 refine HM.out.mono ?_
 rintro x w1 ⟨mc1,cc1,rfl,hm1,hc1,hb1⟩
 obtain⟨s17,o17⟩:=mail_size hm1
 obtain⟨s16,o16⟩:=cmd_size hc1
 refine⟨_,rfl,fun a nx=>?_⟩
 obtain⟨dd,zz,t148,oo⟩:=nx
 replace d:=dd.trans d
 replace z:=J (zz.trans z.out)
 replace t5:=(oo 5 (by decide)).trans t5
 replace t9:=(oo 9 (by decide)).trans t9
 replace t10:=(oo 10 (by decide)).trans t10
 replace t12:=(oo 12 (by decide)).trans t12
 replace t13:=(oo 13 (by decide)).trans t13
 replace t138:=(oo 138 (by decide)).trans t138
 replace t139:=(oo 139 (by decide)).trans t139
 replace t140:=(oo 140 (by decide)).trans t140
 clear dd zz oo t145 t146 t147
 conv=>arg 4;whnf
 refine wpl_v 144 (.tuple #[.agg mc1,.agg cc1,.int .i64 p.2.2]) (by rw [z.out];decide) fun a nx=>?_
 obtain⟨dd,zz,t144,oo⟩:=nx
 replace d:=dd.trans d
 replace z:=J (zz.trans z.out)
 replace t5:=(oo 5 (by decide)).trans t5
 replace t9:=(oo 9 (by decide)).trans t9
 replace t10:=(oo 10 (by decide)).trans t10
 replace t12:=(oo 12 (by decide)).trans t12
 replace t13:=(oo 13 (by decide)).trans t13
 replace t138:=(oo 138 (by decide)).trans t138
 replace t139:=(oo 139 (by decide)).trans t139
 replace t140:=(oo 140 (by decide)).trans t140
 clear dd zz oo t148
 conv=>arg 4;whnf
 refine wpl_v 149 (.agg mc1) (by rw [z.out];decide) fun a nx=>?_
 obtain⟨dd,zz,t149,oo⟩:=nx
 replace d:=dd.trans d
 replace z:=J (zz.trans z.out)
 replace t5:=(oo 5 (by decide)).trans t5
 replace t9:=(oo 9 (by decide)).trans t9
 replace t10:=(oo 10 (by decide)).trans t10
 replace t12:=(oo 12 (by decide)).trans t12
 replace t13:=(oo 13 (by decide)).trans t13
 replace t138:=(oo 138 (by decide)).trans t138
 replace t139:=(oo 139 (by decide)).trans t139
 replace t140:=(oo 140 (by decide)).trans t140
 replace t144:=(oo 144 (by decide)).trans t144
 clear dd zz oo
 conv=>arg 4;whnf
 refine wpl_v 150 (.agg cc1) (by rw [z.out];decide) fun a nx=>?_
 obtain⟨dd,zz,t150,oo⟩:=nx
 replace d:=dd.trans d
 replace z:=J (zz.trans z.out)
 replace t5:=(oo 5 (by decide)).trans t5
 replace t9:=(oo 9 (by decide)).trans t9
 replace t10:=(oo 10 (by decide)).trans t10
 replace t12:=(oo 12 (by decide)).trans t12
 replace t13:=(oo 13 (by decide)).trans t13
 replace t138:=(oo 138 (by decide)).trans t138
 replace t139:=(oo 139 (by decide)).trans t139
 replace t140:=(oo 140 (by decide)).trans t140
 replace t144:=(oo 144 (by decide)).trans t144
 replace t149:=(oo 149 (by decide)).trans t149
 clear dd zz oo
 conv=>arg 4;whnf
 refine wpl_v 151 (.int .i64 p.2.2) (by rw [z.out];decide) fun a nx=>?_
 obtain⟨dd,zz,t151,oo⟩:=nx
 replace d:=dd.trans d
 replace z:=J (zz.trans z.out)
 replace t5:=(oo 5 (by decide)).trans t5
 replace t9:=(oo 9 (by decide)).trans t9
 replace t10:=(oo 10 (by decide)).trans t10
 replace t12:=(oo 12 (by decide)).trans t12
 replace t13:=(oo 13 (by decide)).trans t13
 replace t138:=(oo 138 (by decide)).trans t138
 replace t139:=(oo 139 (by decide)).trans t139
 replace t140:=(oo 140 (by decide)).trans t140
 replace t149:=(oo 149 (by decide)).trans t149
 replace t150:=(oo 150 (by decide)).trans t150
 clear dd zz oo t144
 conv=>arg 4;whnf
 refine wpl_w 22 (.pointer (some ⟨w1.heap.size,0,none⟩)) (w1.alloc (.cells noMail 30)) (by rw [z.out];decide) fun a nx=>?_
 obtain⟨dd,zz,t22,oo⟩:=nx
 replace d:=dd.trans d
 replace z:=J (zz.trans z.out)
 replace t5:=(oo 5 (by decide)).trans t5
 replace t9:=(oo 9 (by decide)).trans t9
 replace t10:=(oo 10 (by decide)).trans t10
 replace t12:=(oo 12 (by decide)).trans t12
 replace t13:=(oo 13 (by decide)).trans t13
 replace t138:=(oo 138 (by decide)).trans t138
 replace t139:=(oo 139 (by decide)).trans t139
 replace t140:=(oo 140 (by decide)).trans t140
 replace t149:=(oo 149 (by decide)).trans t149
 replace t150:=(oo 150 (by decide)).trans t150
 replace t151:=(oo 151 (by decide)).trans t151
 clear dd zz oo
 conv=>arg 4;whnf
 refine wpl_w 23 (.pointer (some ⟨(w1.heap.size+1),0,none⟩)) ((w1.alloc (.cells noMail 30)).alloc (.cells noCmd 47)) (by rw [z.out];decide) fun a nx=>?_
 obtain⟨dd,zz,t23,oo⟩:=nx
 replace d:=dd.trans d
 replace z:=J (zz.trans z.out)
 replace t5:=(oo 5 (by decide)).trans t5
 replace t9:=(oo 9 (by decide)).trans t9
 replace t10:=(oo 10 (by decide)).trans t10
 replace t12:=(oo 12 (by decide)).trans t12
 replace t13:=(oo 13 (by decide)).trans t13
 replace t22:=(oo 22 (by decide)).trans t22
 replace t138:=(oo 138 (by decide)).trans t138
 replace t139:=(oo 139 (by decide)).trans t139
 replace t140:=(oo 140 (by decide)).trans t140
 replace t149:=(oo 149 (by decide)).trans t149
 replace t150:=(oo 150 (by decide)).trans t150
 replace t151:=(oo 151 (by decide)).trans t151
 clear dd zz oo
 conv=>arg 4;whnf
 refine wpl_tb 30 (.tmp 22) (.tmp 149) w1.heap.size noMail mc1 (ev_at t22) (ev_at t149) ((Blk.new w1 30 noMail).alloc _) (by rw [s17];rfl) (by rw [s17];exact Try.sizeMail) o17 ?_
 clear t149
 conv=>arg 4;whnf
 refine wpl_tb 47 (.tmp 23) (.tmp 150) (w1.heap.size+1) noCmd cc1 (ev_at t23) (ev_at t150) (meet_box w1 mc1) (by rw [s16];rfl) (by rw [s16];exact Try.sizeCmd) o16 ?_
 clear t150
 conv=>arg 4;whnf
 refine wpl_v 24 (.int .i64 p.2.2) (by rw [z.out];decide) fun a nx=>?_
 obtain⟨dd,zz,t24,oo⟩:=nx
 replace d:=dd.trans d
 replace z:=J (zz.trans z.out)
 replace t5:=(oo 5 (by decide)).trans t5
 replace t9:=(oo 9 (by decide)).trans t9
 replace t10:=(oo 10 (by decide)).trans t10
 replace t12:=(oo 12 (by decide)).trans t12
 replace t13:=(oo 13 (by decide)).trans t13
 replace t22:=(oo 22 (by decide)).trans t22
 replace t23:=(oo 23 (by decide)).trans t23
 replace t138:=(oo 138 (by decide)).trans t138
 replace t139:=(oo 139 (by decide)).trans t139
 replace t140:=(oo 140 (by decide)).trans t140
 clear dd zz oo t151
 conv=>arg 4;whnf
 obtain⟨q1,q2,q3⟩:=meet_end w1 mc1 cc1 s17 s16
 exact HQ.out a w1 _ mc1 cc1 ⟨d,z.out,at_of t5,at_of t9,at_of t10,at_of t12,at_of t13,at_of t22,at_of t23,at_of t24,at_of t138,at_of t139,at_of t140,trivial⟩ hb1.size q1 q2 (hm1.below q3) (hc1.below q3) (hb1.trans (q3.mono hb1.size))
theorem ee23 (Q:Z) (a:Act) (hfr:Fr 170 a [(5,b5),(9,ga),(10,gb),(12,.slice oA n oc),(13,lb),(15,.slice sA sn sc),(17,b17),(18,b18),(19,wh),(86,.int .i64 (N:Nat)),(87,.int .i64 (i:Nat))]) (hQ:∀ a',Fr 170 a' [(5,b5),(9,ga),(10,gb),(12,.slice oA n oc),(13,lb),(15,.slice sA sn sc),(17,b17),(18,b18),(19,wh),(86,.int .i64 (N:Nat)),(87,.int .i64 (i:Nat)),(108,.bool (wh==2))]->Q .normal a' w):(part [1,1,1,1,1,1,1,1,1,1,1,1,0,1,0,0,1,1,0,0,1,1,1,1,0,0] (codeOf endsF)).wp prog Q a w:=by
 exact EY2
theorem ee25 (Q:Z) (a:Act) (hfr:Fr 170 a [(5,b5),(9,ga),(10,gb),(12,.slice oA n oc),(13,lb),(15,.slice sA sn sc),(17,b17),(18,b18),(19,wh),(86,.int .i64 (N:Nat)),(87,.int .i64 (i:Nat))]) (hQ:∀ a',Fr 170 a' [(5,b5),(9,ga),(10,gb),(12,.slice oA n oc),(13,lb),(15,.slice sA sn sc),(17,b17),(18,b18),(19,wh),(86,.int .i64 (N:Nat)),(87,.int .i64 (i:Nat)),(113,.bool (wh==1))]->Q .normal a' w):(part [1,1,1,1,1,1,1,1,1,1,1,1,0,1,0,0,1,1,0,0,1,1,1,1,1,0] (codeOf endsF)).wp prog Q a w:=by
 exact EY2
theorem ee24 (Q:Z) (a:Act) (hfr:Fr 170 a [(5,b5),(9,ga),(10,gb),(12,.slice oA n oc),(13,lb),(15,.slice sA sn sc),(17,b17),(18,b18),(19,wh),(86,.int .i64 (N:Nat)),(87,.int .i64 (i:Nat))]) (hb:Blk w b18 47 cc1) (h16:cc1.size=16) (R:World->Prop) (hA:Calls prog 13 #[.pointer (some ⟨gb,0,none⟩),.agg cc1] w fun x w'=>(∃ v,x=.returned v)/\R w')
 (hQ:∀ a' w',Fr 170 a' [(5,b5),(9,ga),(10,gb),(12,.slice oA n oc),(13,lb),(15,.slice sA sn sc),(17,b17),(18,b18),(19,wh),(86,.int .i64 (N:Nat)),(87,.int .i64 (i:Nat))]->R w'->Q .normal a' w'):(part [1,1,1,1,1,1,1,1,1,1,1,1,0,1,0,0,1,1,0,0,1,1,1,1,0,1,0] (codeOf endsF)).wp prog Q a w:=by
 obtain⟨HB,H16,HA,HQ⟩:=J4 hb h16 hA hQ
 clear hb h16 hA hQ
 obtain⟨d,z0,f5,f9,f10,f12,f13,f15,f17,f18,f19,f86,f87,-⟩:=hfr
 have z:=J z0
 have t5:=of_at f5
 have t9:=of_at f9
 have t10:=of_at f10
 have t12:=of_at f12
 have t13:=of_at f13
 have t15:=of_at f15
 have t17:=of_at f17
 have t18:=of_at f18
 have t19:=of_at f19
 have t86:=of_at f86
 have t87:=of_at f87
 clear z0 f5 f9 f10 f12 f13 f15 f17 f18 f19 f86 f87
 refine wp_region_ops (id:=24) kr ?_
 conv=>arg 4;whnf
 refine wpl_v 109 (.pointer (some ⟨gb,0,none⟩)) (by rw [z.out];decide) fun a nx=>?_
 obtain⟨dd,zz,t109,oo⟩:=nx
 replace d:=dd.trans d
 replace z:=J (zz.trans z.out)
 replace t5:=(oo 5 (by decide)).trans t5
 replace t9:=(oo 9 (by decide)).trans t9
 replace t10:=(oo 10 (by decide)).trans t10
 replace t12:=(oo 12 (by decide)).trans t12
 replace t13:=(oo 13 (by decide)).trans t13
 replace t15:=(oo 15 (by decide)).trans t15
 replace t17:=(oo 17 (by decide)).trans t17
 replace t18:=(oo 18 (by decide)).trans t18
 replace t19:=(oo 19 (by decide)).trans t19
 replace t86:=(oo 86 (by decide)).trans t86
 replace t87:=(oo 87 (by decide)).trans t87
 clear dd zz oo
 conv=>arg 4;whnf
 refine wpl_lb 110 47 (.tmp 18) b18 cc1 _ (by rw [z.out];decide) (ev_at t18) HB.out underlying47 (by rw [H16.out];exact Try.sizeCmd) fun a nx=>?_
 obtain⟨dd,zz,t110,oo⟩:=nx
 replace d:=dd.trans d
 replace z:=J (zz.trans z.out)
 replace t5:=(oo 5 (by decide)).trans t5
 replace t9:=(oo 9 (by decide)).trans t9
 replace t10:=(oo 10 (by decide)).trans t10
 replace t12:=(oo 12 (by decide)).trans t12
 replace t13:=(oo 13 (by decide)).trans t13
 replace t15:=(oo 15 (by decide)).trans t15
 replace t17:=(oo 17 (by decide)).trans t17
 replace t18:=(oo 18 (by decide)).trans t18
 replace t19:=(oo 19 (by decide)).trans t19
 replace t86:=(oo 86 (by decide)).trans t86
 replace t87:=(oo 87 (by decide)).trans t87
 replace t109:=(oo 109 (by decide)).trans t109
 clear dd zz oo
 conv=>arg 4;whnf
 refine wpl_e 111 13 #[.pointer (some ⟨gb,0,none⟩),.agg cc1] (by rw [z.out];decide) (by unfold execOp;go_simp) ?_
 refine HA.out.mono ?_
 rintro x w1 ⟨⟨v,rfl⟩,hr⟩
 refine⟨_,rfl,fun a nx=>?_⟩
 obtain⟨dd,zz,t111,oo⟩:=nx
 replace d:=dd.trans d
 replace z:=J (zz.trans z.out)
 replace t5:=(oo 5 (by decide)).trans t5
 replace t9:=(oo 9 (by decide)).trans t9
 replace t10:=(oo 10 (by decide)).trans t10
 replace t12:=(oo 12 (by decide)).trans t12
 replace t13:=(oo 13 (by decide)).trans t13
 replace t15:=(oo 15 (by decide)).trans t15
 replace t17:=(oo 17 (by decide)).trans t17
 replace t18:=(oo 18 (by decide)).trans t18
 replace t19:=(oo 19 (by decide)).trans t19
 replace t86:=(oo 86 (by decide)).trans t86
 replace t87:=(oo 87 (by decide)).trans t87
 clear dd zz oo t109 t110
 exact EY11
theorem ee26 (Q:Z) (a:Act) (hfr:Fr 170 a [(5,b5),(9,ga),(10,gb),(12,.slice oA n oc),(13,lb),(15,.slice sA sn sc),(17,b17),(18,b18),(19,wh),(86,.int .i64 (N:Nat)),(87,.int .i64 (i:Nat))]) (hb:Blk w b17 30 mc1) (h17:mc1.size=17) (R:World->Prop) (hT:Calls prog 28 #[.pointer (some ⟨lb,0,none⟩),.agg mc1,.slice oA n oc] w fun x w'=>(∃ v,x=.returned v)/\R w')
 (hQ:∀ a' w',Fr 170 a' [(5,b5),(9,ga),(10,gb),(12,.slice oA n oc),(13,lb),(15,.slice sA sn sc),(17,b17),(18,b18),(19,wh),(86,.int .i64 (N:Nat)),(87,.int .i64 (i:Nat))]->R w'->Q .normal a' w'):(part [1,1,1,1,1,1,1,1,1,1,1,1,0,1,0,0,1,1,0,0,1,1,1,1,1,1,0] (codeOf endsF)).wp prog Q a w:=by
 obtain⟨HB,H17,HT,HQ⟩:=J4 hb h17 hT hQ
 clear hb h17 hT hQ
 obtain⟨d,z0,f5,f9,f10,f12,f13,f15,f17,f18,f19,f86,f87,-⟩:=hfr
 have z:=J z0
 have t5:=of_at f5
 have t9:=of_at f9
 have t10:=of_at f10
 have t12:=of_at f12
 have t13:=of_at f13
 have t15:=of_at f15
 have t17:=of_at f17
 have t18:=of_at f18
 have t19:=of_at f19
 have t86:=of_at f86
 have t87:=of_at f87
 clear z0 f5 f9 f10 f12 f13 f15 f17 f18 f19 f86 f87
 refine wp_region_ops (id:=26) kr ?_
 conv=>arg 4;whnf
 refine wpl_v 114 (.pointer (some ⟨lb,0,none⟩)) (by rw [z.out];decide) fun a nx=>?_
 obtain⟨dd,zz,t114,oo⟩:=nx
 replace d:=dd.trans d
 replace z:=J (zz.trans z.out)
 replace t5:=(oo 5 (by decide)).trans t5
 replace t9:=(oo 9 (by decide)).trans t9
 replace t10:=(oo 10 (by decide)).trans t10
 replace t12:=(oo 12 (by decide)).trans t12
 replace t13:=(oo 13 (by decide)).trans t13
 replace t15:=(oo 15 (by decide)).trans t15
 replace t17:=(oo 17 (by decide)).trans t17
 replace t18:=(oo 18 (by decide)).trans t18
 replace t19:=(oo 19 (by decide)).trans t19
 replace t86:=(oo 86 (by decide)).trans t86
 replace t87:=(oo 87 (by decide)).trans t87
 clear dd zz oo
 conv=>arg 4;whnf
 refine wpl_lb 115 30 (.tmp 17) b17 mc1 _ (by rw [z.out];decide) (ev_at t17) HB.out underlying30 (by rw [H17.out];exact Try.sizeMail) fun a nx=>?_
 obtain⟨dd,zz,t115,oo⟩:=nx
 replace d:=dd.trans d
 replace z:=J (zz.trans z.out)
 replace t5:=(oo 5 (by decide)).trans t5
 replace t9:=(oo 9 (by decide)).trans t9
 replace t10:=(oo 10 (by decide)).trans t10
 replace t12:=(oo 12 (by decide)).trans t12
 replace t13:=(oo 13 (by decide)).trans t13
 replace t15:=(oo 15 (by decide)).trans t15
 replace t17:=(oo 17 (by decide)).trans t17
 replace t18:=(oo 18 (by decide)).trans t18
 replace t19:=(oo 19 (by decide)).trans t19
 replace t86:=(oo 86 (by decide)).trans t86
 replace t87:=(oo 87 (by decide)).trans t87
 replace t114:=(oo 114 (by decide)).trans t114
 clear dd zz oo
 conv=>arg 4;whnf
 refine wpl_v 116 (.slice oA n oc) (by rw [z.out];decide) fun a nx=>?_
 obtain⟨dd,zz,t116,oo⟩:=nx
 replace d:=dd.trans d
 replace z:=J (zz.trans z.out)
 replace t5:=(oo 5 (by decide)).trans t5
 replace t9:=(oo 9 (by decide)).trans t9
 replace t10:=(oo 10 (by decide)).trans t10
 replace t12:=(oo 12 (by decide)).trans t12
 replace t13:=(oo 13 (by decide)).trans t13
 replace t15:=(oo 15 (by decide)).trans t15
 replace t17:=(oo 17 (by decide)).trans t17
 replace t18:=(oo 18 (by decide)).trans t18
 replace t19:=(oo 19 (by decide)).trans t19
 replace t86:=(oo 86 (by decide)).trans t86
 replace t87:=(oo 87 (by decide)).trans t87
 replace t114:=(oo 114 (by decide)).trans t114
 replace t115:=(oo 115 (by decide)).trans t115
 clear dd zz oo
 conv=>arg 4;whnf
 refine wpl_e 117 28 #[.pointer (some ⟨lb,0,none⟩),.agg mc1,.slice oA n oc] (by rw [z.out];decide) (by unfold execOp;go_simp) ?_
 refine HT.out.mono ?_
 rintro x w1 ⟨⟨v,rfl⟩,hr⟩
 refine⟨_,rfl,fun a nx=>?_⟩
 obtain⟨dd,zz,t117,oo⟩:=nx
 replace d:=dd.trans d
 replace z:=J (zz.trans z.out)
 replace t5:=(oo 5 (by decide)).trans t5
 replace t9:=(oo 9 (by decide)).trans t9
 replace t10:=(oo 10 (by decide)).trans t10
 replace t12:=(oo 12 (by decide)).trans t12
 replace t13:=(oo 13 (by decide)).trans t13
 replace t15:=(oo 15 (by decide)).trans t15
 replace t17:=(oo 17 (by decide)).trans t17
 replace t18:=(oo 18 (by decide)).trans t18
 replace t19:=(oo 19 (by decide)).trans t19
 replace t86:=(oo 86 (by decide)).trans t86
 replace t87:=(oo 87 (by decide)).trans t87
 clear dd zz oo t114 t115 t116
 exact EY11
theorem ee31 (Q:Z) (a:Act) (hfr:Fr 170 a [(5,b5),(9,ga),(10,gb),(12,.slice oA n oc),(13,lb),(138,.slice sA sn sc),(139,.int .i64 (sn:Nat)),(140,.int .i64 (i:Nat))]) (hQ:∀ a',Fr 170 a' [(5,b5),(9,ga),(10,gb),(12,.slice oA n oc),(13,lb),(138,.slice sA sn sc),(139,.int .i64 (sn:Nat)),(140,.int .i64 (i:Nat)),(141,(decide (i<sn)))]->Q .normal a' w):(part [1,1,1,1,1,1,1,1,1,1,1,1,1,1,0,1,0,0,0] (codeOf endsF)).wp prog Q a w:=by
 exact EY2
theorem ee37 (hi:i<4294967296) (Q:Z) (a:Act) (hfr:Fr 170 a [(5,b5),(9,ga),(10,gb),(12,.slice oA n oc),(13,lb),(138,.slice sA sn sc),(139,.int .i64 (sn:Nat)),(140,.int .i64 (i:Nat))]) (hQ:∀ a',Fr 170 a' [(5,b5),(9,ga),(10,gb),(12,.slice oA n oc),(13,lb),(138,.slice sA sn sc),(139,.int .i64 (sn:Nat)),(140,.int .i64 ((i+1:Nat):Nat))]->Q .normal a' w):(part [1,1,1,1,1,1,1,1,1,1,1,1,1,1,0,1,0,0,1,1,1] (codeOf endsF)).wp prog Q a w:=by
 exact EY14
theorem ee32 {ad:Addr} (Q:Z) (a:Act) (hfr:Fr 170 a [(5,b5),(9,ga),(10,gb),(12,.slice oA n oc),(13,lb),(138,.slice (some ad) sn sc),(139,.int .i64 (sn:Nat)),(140,.int .i64 (i:Nat))]) (hc:∀ j v,mc.toList[j]? = some v->w.cell? ((ad.add (i*17)).add j)=some v) (h17:mc.size=17) (h1:mc.all (·.oneCell')=true) (hi:i<sn)
 (hQ:∀ a' w',Fr 170 a' [(5,b5),(9,ga),(10,gb),(12,.slice oA n oc),(13,lb),(21,(w:Nat)),(138,.slice (some ad) sn sc),(139,.int .i64 (sn:Nat)),(140,.int .i64 (i:Nat))]->Blk w' w 30 mc->Below w w w'->Q .normal a' w'):(part [1,1,1,1,1,1,1,1,1,1,1,1,1,1,0,1,0,0,1,1,0,0,0] (codeOf endsF)).wp prog Q a w:=by
 have hlt:(i:Int)<(sn:Nat):=by omega
 obtain⟨HC,H17,H1,HQ,HI⟩:=J5 hc h17 h1 hQ hlt
 clear hc h17 h1 hQ hi hlt
 obtain⟨d,z0,f5,f9,f10,f12,f13,f138,f139,f140,-⟩:=hfr
 have z:=J z0
 have t5:=of_at f5
 have t9:=of_at f9
 have t10:=of_at f10
 have t12:=of_at f12
 have t13:=of_at f13
 have t138:=of_at f138
 have t139:=of_at f139
 have t140:=of_at f140
 clear z0 f5 f9 f10 f12 f13 f138 f139 f140
 refine wp_region_ops (id:=32) kr ?_
 conv=>arg 4;whnf
 refine wpl_v 142 (.pointer (some (ad.add (i*17)))) (by rw [z.out];decide) (h:=by have q1:=HI.out;unfold execOp;go_simp;all_goals first|rfl|omega|exact IntWalk.i64_in _ (by omega)) fun a nx=>?_
 obtain⟨dd,zz,t142,oo⟩:=nx
 replace d:=dd.trans d
 replace z:=J (zz.trans z.out)
 replace t5:=(oo 5 (by decide)).trans t5
 replace t9:=(oo 9 (by decide)).trans t9
 replace t10:=(oo 10 (by decide)).trans t10
 replace t12:=(oo 12 (by decide)).trans t12
 replace t13:=(oo 13 (by decide)).trans t13
 replace t138:=(oo 138 (by decide)).trans t138
 replace t139:=(oo 139 (by decide)).trans t139
 replace t140:=(oo 140 (by decide)).trans t140
 clear dd zz oo
 conv=>arg 4;whnf
 refine wpl_la 143 30 (.tmp 142) (ad.add (i*17)) mc _ (by rw [z.out];decide) (ev_at t142) HC.out underlying30 (by rw [H17.out];exact Try.sizeMail) fun a nx=>?_
 obtain⟨dd,zz,t143,oo⟩:=nx
 replace d:=dd.trans d
 replace z:=J (zz.trans z.out)
 replace t5:=(oo 5 (by decide)).trans t5
 replace t9:=(oo 9 (by decide)).trans t9
 replace t10:=(oo 10 (by decide)).trans t10
 replace t12:=(oo 12 (by decide)).trans t12
 replace t13:=(oo 13 (by decide)).trans t13
 replace t138:=(oo 138 (by decide)).trans t138
 replace t139:=(oo 139 (by decide)).trans t139
 replace t140:=(oo 140 (by decide)).trans t140
 clear dd zz oo t142
 conv=>arg 4;whnf
 refine wpl_w 21 (.pointer (some ⟨w.heap.size,0,none⟩)) (w.alloc (.cells noMail 30)) (by rw [z.out];decide) fun a nx=>?_
 obtain⟨dd,zz,t21,oo⟩:=nx
 replace d:=dd.trans d
 replace z:=J (zz.trans z.out)
 replace t5:=(oo 5 (by decide)).trans t5
 replace t9:=(oo 9 (by decide)).trans t9
 replace t10:=(oo 10 (by decide)).trans t10
 replace t12:=(oo 12 (by decide)).trans t12
 replace t13:=(oo 13 (by decide)).trans t13
 replace t138:=(oo 138 (by decide)).trans t138
 replace t139:=(oo 139 (by decide)).trans t139
 replace t140:=(oo 140 (by decide)).trans t140
 replace t143:=(oo 143 (by decide)).trans t143
 clear dd zz oo
 conv=>arg 4;whnf
 refine wpl_tb 30 (.tmp 21) (.tmp 143) w.heap.size noMail mc (ev_at t21) (ev_at t143) (Blk.new _ _ _) (by rw [H17.out];rfl) (by rw [H17.out];exact Try.sizeMail) H1.out ?_
 clear t143
 conv=>arg 4;whnf
 exact HQ.out a _ ⟨d,z.out,at_of t5,at_of t9,at_of t10,at_of t12,at_of t13,at_of t21,at_of t138,at_of t139,at_of t140,trivial⟩ ((Blk.new w 30 noMail).setCells_ mc.toList (by rw [Array.length_toList,H17.out];rfl)) (below_setCells (Nat.le_refl _) ((Below.refl _ _).alloc (Nat.le_refl _) _) _ _)
theorem ee34 (Q:Z) (a:Act) (hfr:Fr 170 a [(5,b5),(9,ga),(10,gb),(12,.slice oA n oc),(13,lb),(22,b17),(23,b18),(24,wh),(138,.slice sA sn sc),(139,.int .i64 (sn:Nat)),(140,.int .i64 (i:Nat))]) (hQ:∀ a',Fr 170 a' [(5,b5),(9,ga),(10,gb),(12,.slice oA n oc),(13,lb),(22,b17),(23,b18),(24,wh),(138,.slice sA sn sc),(139,.int .i64 (sn:Nat)),(140,.int .i64 (i:Nat)),(153,.bool (wh != 1))]->Q .normal a' w):(part [1,1,1,1,1,1,1,1,1,1,1,1,1,1,0,1,0,0,1,1,0,0,1,1,0,0] (codeOf endsF)).wp prog Q a w:=by
 exact EY2
theorem ee36 (Q:Z) (a:Act) (hfr:Fr 170 a [(5,b5),(9,ga),(10,gb),(12,.slice oA n oc),(13,lb),(22,b17),(138,.slice sA sn sc),(139,.int .i64 (sn:Nat)),(140,.int .i64 (i:Nat))]) (hb:Blk w b17 30 mc1) (h17:mc1.size=17) (R:World->Prop) (hT:Calls prog 28 #[.pointer (some ⟨lb,0,none⟩),.agg mc1,.slice oA n oc] w fun x w'=>(∃ v,x=.returned v)/\R w')
 (hQ:∀ a' w',Fr 170 a' [(5,b5),(9,ga),(10,gb),(12,.slice oA n oc),(13,lb),(22,b17),(138,.slice sA sn sc),(139,.int .i64 (sn:Nat)),(140,.int .i64 (i:Nat))]->R w'->Q .normal a' w'):(part [1,1,1,1,1,1,1,1,1,1,1,1,1,1,0,1,0,0,1,1,0,0,1,1,1] (codeOf endsF)).wp prog Q a w:=by
 obtain⟨HB,H17,HT,HQ⟩:=J4 hb h17 hT hQ
 clear hb h17 hT hQ
 obtain⟨d,z0,f5,f9,f10,f12,f13,f22,f138,f139,f140,-⟩:=hfr
 have z:=J z0
 have t5:=of_at f5
 have t9:=of_at f9
 have t10:=of_at f10
 have t12:=of_at f12
 have t13:=of_at f13
 have t22:=of_at f22
 have t138:=of_at f138
 have t139:=of_at f139
 have t140:=of_at f140
 clear z0 f5 f9 f10 f12 f13 f22 f138 f139 f140
 refine wp_region_ops (id:=36) kr ?_
 conv=>arg 4;whnf
 refine wpl_v 154 (.pointer (some ⟨lb,0,none⟩)) (by rw [z.out];decide) fun a nx=>?_
 obtain⟨dd,zz,t154,oo⟩:=nx
 replace d:=dd.trans d
 replace z:=J (zz.trans z.out)
 replace t5:=(oo 5 (by decide)).trans t5
 replace t9:=(oo 9 (by decide)).trans t9
 replace t10:=(oo 10 (by decide)).trans t10
 replace t12:=(oo 12 (by decide)).trans t12
 replace t13:=(oo 13 (by decide)).trans t13
 replace t22:=(oo 22 (by decide)).trans t22
 replace t138:=(oo 138 (by decide)).trans t138
 replace t139:=(oo 139 (by decide)).trans t139
 replace t140:=(oo 140 (by decide)).trans t140
 clear dd zz oo
 conv=>arg 4;whnf
 refine wpl_lb 155 30 (.tmp 22) b17 mc1 _ (by rw [z.out];decide) (ev_at t22) HB.out underlying30 (by rw [H17.out];exact Try.sizeMail) fun a nx=>?_
 obtain⟨dd,zz,t155,oo⟩:=nx
 replace d:=dd.trans d
 replace z:=J (zz.trans z.out)
 replace t5:=(oo 5 (by decide)).trans t5
 replace t9:=(oo 9 (by decide)).trans t9
 replace t10:=(oo 10 (by decide)).trans t10
 replace t12:=(oo 12 (by decide)).trans t12
 replace t13:=(oo 13 (by decide)).trans t13
 replace t22:=(oo 22 (by decide)).trans t22
 replace t138:=(oo 138 (by decide)).trans t138
 replace t139:=(oo 139 (by decide)).trans t139
 replace t140:=(oo 140 (by decide)).trans t140
 replace t154:=(oo 154 (by decide)).trans t154
 clear dd zz oo
 conv=>arg 4;whnf
 refine wpl_v 156 (.slice oA n oc) (by rw [z.out];decide) fun a nx=>?_
 obtain⟨dd,zz,t156,oo⟩:=nx
 replace d:=dd.trans d
 replace z:=J (zz.trans z.out)
 replace t5:=(oo 5 (by decide)).trans t5
 replace t9:=(oo 9 (by decide)).trans t9
 replace t10:=(oo 10 (by decide)).trans t10
 replace t12:=(oo 12 (by decide)).trans t12
 replace t13:=(oo 13 (by decide)).trans t13
 replace t22:=(oo 22 (by decide)).trans t22
 replace t138:=(oo 138 (by decide)).trans t138
 replace t139:=(oo 139 (by decide)).trans t139
 replace t140:=(oo 140 (by decide)).trans t140
 replace t154:=(oo 154 (by decide)).trans t154
 replace t155:=(oo 155 (by decide)).trans t155
 clear dd zz oo
 conv=>arg 4;whnf
 refine wpl_e 157 28 #[.pointer (some ⟨lb,0,none⟩),.agg mc1,.slice oA n oc] (by rw [z.out];decide) (by unfold execOp;go_simp) ?_
 refine HT.out.mono ?_
 rintro x w1 ⟨⟨v,rfl⟩,hr⟩
 refine⟨_,rfl,fun a nx=>?_⟩
 obtain⟨dd,zz,t157,oo⟩:=nx
 replace d:=dd.trans d
 replace z:=J (zz.trans z.out)
 replace t5:=(oo 5 (by decide)).trans t5
 replace t9:=(oo 9 (by decide)).trans t9
 replace t10:=(oo 10 (by decide)).trans t10
 replace t12:=(oo 12 (by decide)).trans t12
 replace t13:=(oo 13 (by decide)).trans t13
 replace t22:=(oo 22 (by decide)).trans t22
 replace t138:=(oo 138 (by decide)).trans t138
 replace t139:=(oo 139 (by decide)).trans t139
 replace t140:=(oo 140 (by decide)).trans t140
 clear dd zz oo t154 t155 t156
 conv=>arg 4;whnf
 exact HQ.out a w1 ⟨d,z.out,at_of t5,at_of t9,at_of t10,at_of t12,at_of t13,at_of t22,at_of t138,at_of t139,at_of t140,trivial⟩ hr
end
end Go.Proofs.Ytaipgdhdfpemcaa
