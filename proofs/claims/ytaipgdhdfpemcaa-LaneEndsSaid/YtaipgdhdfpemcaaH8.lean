/- THE WALKS OF LaneEnds, part 8. -/
import Derived.Test.YtaipgdhdfpemcaaH1
import Derived.Test.YtaipgdhdfpemcaaH7
namespace Go.Proofs.Ytaipgdhdfpemcaa
set_option linter.all false
open Go.RowKit Go.Proofs.Try
set_option maxRecDepth 100000
set_option maxHeartbeats 4000000
section
variable {w:World} {b5 ga gb lb n oc sn sc s tb jn jc:Nat} {oA sA jA A:O} {site e f1 f2 u v:Int} {c:Nat}
theorem ez1 (Q:Z) (a:Act) (hfr:Fr 170 a [(0,.slice A n c),(1,site),(5,b5)]) (hA:Calls prog 10 #[] w fun x w'=>x=.returned (.bool true)/\Below w w w')
 (hQ:∀ a' w',Fr 170 a' [(0,.slice A n c),(1,site),(5,b5),(26,false)]->Below w w w'->Q .normal a' w'):(part [1,0,0] (codeOf endsF)).wp prog Q a w:=by
 obtain⟨HA,HQ⟩:=J2 hA hQ
 clear hA hQ
 obtain⟨d,z0,f0,f1,f5,-⟩:=hfr
 have z:=J z0
 have t0:=of_at f0
 have t1:=of_at f1
 have t5:=of_at f5
 clear z0 f0 f1 f5
 refine wp_region_ops (id:=1) kr ?_
 conv=>arg 4;whnf
 refine wpl_e 25 10 #[] (by rw [z.out];decide) (by unfold execOp;go_simp) ?_
 refine HA.out.mono ?_
 rintro x w1 ⟨rfl,hb1⟩
 refine⟨_,rfl,fun a nx=>?_⟩
 obtain⟨dd,zz,t25,oo⟩:=nx
 replace d:=dd.trans d
 replace z:=J (zz.trans z.out)
 replace t0:=(oo 0 (by decide)).trans t0
 replace t1:=(oo 1 (by decide)).trans t1
 replace t5:=(oo 5 (by decide)).trans t5
 clear dd zz oo
 conv=>arg 4;whnf
 refine wpl_v 26 (.bool false) (by rw [z.out];decide) fun a nx=>?_
 obtain⟨dd,zz,t26,oo⟩:=nx
 replace d:=dd.trans d
 replace z:=J (zz.trans z.out)
 replace t0:=(oo 0 (by decide)).trans t0
 replace t1:=(oo 1 (by decide)).trans t1
 replace t5:=(oo 5 (by decide)).trans t5
 clear dd zz oo t25
 conv=>arg 4;whnf
 exact HQ.out a w1 ⟨d,z.out,at_of t0,at_of t1,at_of t5,at_of t26,trivial⟩ hb1
theorem ez3 (Q:Z) (a:Act) (hfr:Fr 170 a [(0,.slice A n c),(1,site),(5,b5)]) (R:Value->World->Prop) (hA:Calls prog 23 #[.slice A n c] w fun e w'=>∃ x,e=.returned x/\R x w')
 (hQ:∀ a' w' x,Fr 170 a' [(1,site),(5,b5),(7,x)]->R x w'->Q .normal a' w'):(part [1,1,0] (codeOf endsF)).wp prog Q a w:=by
 obtain⟨HA,HQ⟩:=J2 hA hQ
 clear hA hQ
 obtain⟨d,z0,f0,f1,f5,-⟩:=hfr
 have z:=J z0
 have t0:=of_at f0
 have t1:=of_at f1
 have t5:=of_at f5
 clear z0 f0 f1 f5
 refine wp_region_ops (id:=3) kr ?_
 conv=>arg 4;whnf
 refine wpl_v 27 (.slice A n c) (by rw [z.out];decide) fun a nx=>?_
 obtain⟨dd,zz,t27,oo⟩:=nx
 replace d:=dd.trans d
 replace z:=J (zz.trans z.out)
 replace t1:=(oo 1 (by decide)).trans t1
 replace t5:=(oo 5 (by decide)).trans t5
 clear dd zz oo t0
 conv=>arg 4;whnf
 refine wpl_e 28 23 #[.slice A n c] (by rw [z.out];decide) (by unfold execOp;go_simp) ?_
 refine HA.out.mono ?_
 rintro e w1 ⟨x,rfl,hr⟩
 refine⟨_,rfl,fun a nx=>?_⟩
 obtain⟨dd,zz,t28,oo⟩:=nx
 replace d:=dd.trans d
 replace z:=J (zz.trans z.out)
 replace t1:=(oo 1 (by decide)).trans t1
 replace t5:=(oo 5 (by decide)).trans t5
 clear dd zz oo t27
 conv=>arg 4;whnf
 refine wpl_v 7 (x) (by rw [z.out];decide) fun a nx=>?_
 obtain⟨dd,zz,t7,oo⟩:=nx
 replace d:=dd.trans d
 replace z:=J (zz.trans z.out)
 replace t1:=(oo 1 (by decide)).trans t1
 replace t5:=(oo 5 (by decide)).trans t5
 clear dd zz oo t28
 conv=>arg 4;whnf
 exact HQ.out a w1 x ⟨d,z.out,at_of t1,at_of t5,at_of t7,trivial⟩ hr
theorem ez4a (Q:Z) (a:Act) (hfr:Fr 170 a [(1,site),(5,b5),(7,.pointer none)])
 (hQ:∀ a',Fr 170 a' [(36,true)]->Q .normal a' w):(part [1,1,1,0,0] (codeOf endsF)).wp prog Q a w:=by
 have HQ:=J hQ
 clear hQ
 obtain⟨d,z0,f1,f5,f7,-⟩:=hfr
 have z:=J z0
 have t1:=of_at f1
 have t5:=of_at f5
 have t7:=of_at f7
 clear z0 f1 f5 f7
 refine wp_region_ops (id:=4) kr ?_
 conv=>arg 4;whnf
 refine wpl_v 29 (.pointer none) (by rw [z.out];decide) fun a nx=>?_
 obtain⟨dd,zz,t29,oo⟩:=nx
 replace d:=dd.trans d
 replace z:=J (zz.trans z.out)
 clear dd zz oo t1 t5 t7
 conv=>arg 4;whnf
 refine wpl_v 30 (.bool true) (by rw [z.out];decide) fun a nx=>?_
 obtain⟨dd,zz,t30,oo⟩:=nx
 replace d:=dd.trans d
 replace z:=J (zz.trans z.out)
 clear dd zz oo t29
 conv=>arg 4;whnf
 refine wpl_v 31 (.bool true) (by rw [z.out];decide) fun a nx=>?_
 obtain⟨dd,zz,t31,oo⟩:=nx
 replace d:=dd.trans d
 replace z:=J (zz.trans z.out)
 clear dd zz oo t30
 conv=>arg 4;whnf
 refine wpl_off 32 t31 (by rw [z.out];decide) fun a nx=>?_
 obtain⟨dd,zz,t32,oo⟩:=nx
 replace d:=dd.trans d
 replace z:=J (zz.trans z.out)
 replace t31:=(oo 31 (by decide)).trans t31
 clear dd zz oo
 conv=>arg 4;whnf
 refine wpl_off 33 t31 (by rw [z.out];decide) fun a nx=>?_
 obtain⟨dd,zz,t33,oo⟩:=nx
 replace d:=dd.trans d
 replace z:=J (zz.trans z.out)
 replace t31:=(oo 31 (by decide)).trans t31
 clear dd zz oo t32
 conv=>arg 4;whnf
 refine wpl_off 34 t31 (by rw [z.out];decide) fun a nx=>?_
 obtain⟨dd,zz,t34,oo⟩:=nx
 replace d:=dd.trans d
 replace z:=J (zz.trans z.out)
 replace t31:=(oo 31 (by decide)).trans t31
 clear dd zz oo t33
 conv=>arg 4;whnf
 refine wpl_off 35 t31 (by rw [z.out];decide) fun a nx=>?_
 obtain⟨dd,zz,t35,oo⟩:=nx
 replace d:=dd.trans d
 replace z:=J (zz.trans z.out)
 replace t31:=(oo 31 (by decide)).trans t31
 clear dd zz oo t34
 conv=>arg 4;whnf
 refine wpl_v 36 (.bool true) (by rw [z.out];decide) fun a nx=>?_
 obtain⟨dd,zz,t36,oo⟩:=nx
 replace d:=dd.trans d
 replace z:=J (zz.trans z.out)
 clear dd zz oo t31 t35
 conv=>arg 4;whnf
 exact HQ.out a ⟨d,z.out,at_of t36,trivial⟩
theorem ez4b {rN rE:Int} (Q:Z) (a:Act) (hfr:Fr 170 a [(1,site),(5,b5),(7,tb)]) (h5:Blk w b5 32 #[rN,rE,.slice jA jn jc])
 (hQ:∀ a',Fr 170 a' [(1,site),(5,b5),(7,tb),(36,(decide ((200:Int)<(jn:Nat))))]->Q .normal a' w):(part [1,1,1,0,0] (codeOf endsF)).wp prog Q a w:=by
 obtain⟨H5,HQ⟩:=J2 h5 hQ
 clear h5 hQ
 obtain⟨d,z0,f1,f5,f7,-⟩:=hfr
 have z:=J z0
 have t1:=of_at f1
 have t5:=of_at f5
 have t7:=of_at f7
 clear z0 f1 f5 f7
 refine wp_region_ops (id:=4) kr ?_
 conv=>arg 4;whnf
 refine wpl_v 29 (.pointer (some ⟨tb,0,none⟩)) (by rw [z.out];decide) fun a nx=>?_
 obtain⟨dd,zz,t29,oo⟩:=nx
 replace d:=dd.trans d
 replace z:=J (zz.trans z.out)
 replace t1:=(oo 1 (by decide)).trans t1
 replace t5:=(oo 5 (by decide)).trans t5
 replace t7:=(oo 7 (by decide)).trans t7
 clear dd zz oo
 conv=>arg 4;whnf
 refine wpl_v 30 (.bool false) (by rw [z.out];decide) fun a nx=>?_
 obtain⟨dd,zz,t30,oo⟩:=nx
 replace d:=dd.trans d
 replace z:=J (zz.trans z.out)
 replace t1:=(oo 1 (by decide)).trans t1
 replace t5:=(oo 5 (by decide)).trans t5
 replace t7:=(oo 7 (by decide)).trans t7
 clear dd zz oo t29
 conv=>arg 4;whnf
 refine wpl_v 31 (.bool false) (by rw [z.out];decide) fun a nx=>?_
 obtain⟨dd,zz,t31,oo⟩:=nx
 replace d:=dd.trans d
 replace z:=J (zz.trans z.out)
 replace t1:=(oo 1 (by decide)).trans t1
 replace t5:=(oo 5 (by decide)).trans t5
 replace t7:=(oo 7 (by decide)).trans t7
 clear dd zz oo t30
 conv=>arg 4;whnf
 refine wpl_on t31 ?_
 refine wpl_v 32 (.pointer (some ⟨b5,2,none⟩)) (by rw [z.out];decide) fun a nx=>?_
 obtain⟨dd,zz,t32,oo⟩:=nx
 replace d:=dd.trans d
 replace z:=J (zz.trans z.out)
 replace t1:=(oo 1 (by decide)).trans t1
 replace t5:=(oo 5 (by decide)).trans t5
 replace t7:=(oo 7 (by decide)).trans t7
 replace t31:=(oo 31 (by decide)).trans t31
 clear dd zz oo
 conv=>arg 4;whnf
 refine wpl_on t31 ?_
 have d0:=H5.out.c1 2
 refine wpl_v 33 (.slice jA jn jc) (by rw [z.out];decide) fun a nx=>?_
 obtain⟨dd,zz,t33,oo⟩:=nx
 replace d:=dd.trans d
 replace z:=J (zz.trans z.out)
 replace t1:=(oo 1 (by decide)).trans t1
 replace t5:=(oo 5 (by decide)).trans t5
 replace t7:=(oo 7 (by decide)).trans t7
 replace t31:=(oo 31 (by decide)).trans t31
 clear dd zz oo t32
 conv=>arg 4;whnf
 refine wpl_on t31 ?_
 refine wpl_v 34 (.int .i64 (jn:Nat)) (by rw [z.out];decide) fun a nx=>?_
 obtain⟨dd,zz,t34,oo⟩:=nx
 replace d:=dd.trans d
 replace z:=J (zz.trans z.out)
 replace t1:=(oo 1 (by decide)).trans t1
 replace t5:=(oo 5 (by decide)).trans t5
 replace t7:=(oo 7 (by decide)).trans t7
 replace t31:=(oo 31 (by decide)).trans t31
 clear dd zz oo t33
 conv=>arg 4;whnf
 refine wpl_on t31 ?_
 refine wpl_v 35 (.bool (decide ((200:Int)<(jn:Nat)))) (by rw [z.out];decide) fun a nx=>?_
 obtain⟨dd,zz,t35,oo⟩:=nx
 replace d:=dd.trans d
 replace z:=J (zz.trans z.out)
 replace t1:=(oo 1 (by decide)).trans t1
 replace t5:=(oo 5 (by decide)).trans t5
 replace t7:=(oo 7 (by decide)).trans t7
 replace t31:=(oo 31 (by decide)).trans t31
 clear dd zz oo t34
 conv=>arg 4;whnf
 refine wpl_v 36 (.bool (decide ((200:Int)<(jn:Nat)))) (by rw [z.out];decide) fun a nx=>?_
 obtain⟨dd,zz,t36,oo⟩:=nx
 replace d:=dd.trans d
 replace z:=J (zz.trans z.out)
 replace t1:=(oo 1 (by decide)).trans t1
 replace t5:=(oo 5 (by decide)).trans t5
 replace t7:=(oo 7 (by decide)).trans t7
 clear dd zz oo t31 t35
 conv=>arg 4;whnf
 exact HQ.out a ⟨d,z.out,at_of t1,at_of t5,at_of t7,at_of t36,trivial⟩
theorem ez6 (Q:Z) (a:Act) (hfr:Fr 170 a [(1,site),(5,b5),(7,tb)]) (hr:IntKind.i64.wrap ((IntKind.u64.wrap site).tmod 2)=(s:Nat)) (hr2:IntKind.u64.wrap ((IntKind.u64.wrap site).tmod 2)=(IntKind.u64.wrap site).tmod 2)
 (hQ:∀ a',Fr 170 a' [(5,b5),(7,tb),(8,.int .i64 (s:Nat))]->Q .normal a' w):(part [1,1,1,1,0] (codeOf endsF)).wp prog Q a w:=by
 obtain⟨HR,HR2,HQ⟩:=J3 hr hr2 hQ
 clear hr hr2 hQ
 obtain⟨d,z0,f1,f5,f7,-⟩:=hfr
 have z:=J z0
 have t1:=of_at f1
 have t5:=of_at f5
 have t7:=of_at f7
 clear z0 f1 f5 f7
 refine wp_region_ops (id:=6) kr ?_
 conv=>arg 4;whnf
 refine wpl_v 37 (.int .i64 site) (by rw [z.out];decide) fun a nx=>?_
 obtain⟨dd,zz,t37,oo⟩:=nx
 replace d:=dd.trans d
 replace z:=J (zz.trans z.out)
 replace t5:=(oo 5 (by decide)).trans t5
 replace t7:=(oo 7 (by decide)).trans t7
 clear dd zz oo t1
 conv=>arg 4;whnf
 refine wpl_v 38 (.int .u64 (IntKind.u64.wrap site)) (by rw [z.out];decide) fun a nx=>?_
 obtain⟨dd,zz,t38,oo⟩:=nx
 replace d:=dd.trans d
 replace z:=J (zz.trans z.out)
 replace t5:=(oo 5 (by decide)).trans t5
 replace t7:=(oo 7 (by decide)).trans t7
 clear dd zz oo t37
 conv=>arg 4;whnf
 refine wpl_v 39 (.int .u64 ((IntKind.u64.wrap site).tmod 2)) (by rw [z.out];decide) (h:=by unfold execOp;go_simp;all_goals first|rfl|exact HR.out|exact HR2.out|omega) fun a nx=>?_
 obtain⟨dd,zz,t39,oo⟩:=nx
 replace d:=dd.trans d
 replace z:=J (zz.trans z.out)
 replace t5:=(oo 5 (by decide)).trans t5
 replace t7:=(oo 7 (by decide)).trans t7
 clear dd zz oo t38
 conv=>arg 4;whnf
 refine wpl_v 40 (.int .i64 (s:Nat)) (by rw [z.out];decide) (h:=by unfold execOp;go_simp;all_goals first|rfl|exact HR.out|exact HR2.out|omega) fun a nx=>?_
 obtain⟨dd,zz,t40,oo⟩:=nx
 replace d:=dd.trans d
 replace z:=J (zz.trans z.out)
 replace t5:=(oo 5 (by decide)).trans t5
 replace t7:=(oo 7 (by decide)).trans t7
 clear dd zz oo t39
 conv=>arg 4;whnf
 refine wpl_v 8 (.int .i64 (s:Nat)) (by rw [z.out];decide) fun a nx=>?_
 obtain⟨dd,zz,t8,oo⟩:=nx
 replace d:=dd.trans d
 replace z:=J (zz.trans z.out)
 replace t5:=(oo 5 (by decide)).trans t5
 replace t7:=(oo 7 (by decide)).trans t7
 clear dd zz oo t40
 conv=>arg 4;whnf
 exact HQ.out a ⟨d,z.out,at_of t5,at_of t7,at_of t8,trivial⟩
theorem ez7 {r:Nat} (Q:Z) (a:Act) (hfr:Fr 170 a [(5,b5),(7,tb),(8,.int .i64 (s:Nat))]) (hs:s<2) (hr:r<2) (hsr:IntKind.i64.wrap (1-(s:Int))=(r:Nat)) (hc:w.cell? ⟨tb,s,none⟩=some (.pointer (some ⟨ga,0,none⟩))) (hd:w.cell? ⟨tb,r,none⟩=some (.pointer (some ⟨gb,0,none⟩)))
 (hQ:∀ a',Fr 170 a' [(5,b5),(8,.int .i64 (s:Nat)),(9,ga),(10,gb)]->Q .normal a' w.drew):(part [1,1,1,1,1,0] (codeOf endsF)).wp prog Q a w:=by
 have hc0:w.drew.cell? ⟨tb,s,none⟩=some (.pointer (some ⟨ga,0,none⟩)):=hc
 have hd0:w.drew.cell? ⟨tb,r,none⟩=some (.pointer (some ⟨gb,0,none⟩)):=hd
 obtain⟨w0,hw0⟩:∃ w0,w0=w.drew:=⟨_,rfl⟩
 rw [<-hw0] at hc0 hd0 hQ
 obtain⟨HC,HD,HQ,HW1⟩:=J4 hc0 hd0 hQ hsr
 clear hc hd hc0 hd0 hQ hsr
 refine gg hfr fun t=>?_
 obtain⟨w1,hw1⟩:∃ w1,w1=w:=⟨_,rfl⟩
 rw [<-hw1]
 rw [<-hw1] at hw0
 clear hw1
 have HW0:=J hw0
 clear hw0
 refine wp_region_all kr (fun i v W=>match i with|0=>v=.pointer (some ⟨tb,0,none⟩)|1=>v=.int .i64 (s:Nat)|2=>v=.pointer (some ⟨tb,0,none⟩)|3=>v=.pointer (some ⟨tb,s,none⟩)|4=>v=.pointer (some ⟨ga,0,none⟩)|5=>v=.pointer (some ⟨tb,0,none⟩)|6=>v=.int .i64 (s:Nat)|7=>v=.int .i64 (r:Nat)|8=>v=.pointer (some ⟨tb,0,none⟩)|9=>v=.pointer (some ⟨tb,r,none⟩)|10=>v=.pointer (some ⟨gb,0,none⟩)|11=>v=.pointer (some ⟨ga,0,none⟩)|12=>v=.pointer (some ⟨gb,0,none⟩)|_=>True) (fun W=>W=w0) (fun W W'=>W'=W) kr ?hG ?hmono ?hstep ?hend
 case hG=>exact HW0.out.symm
 case hmono=>
  intro i v W W' hx hv
  match i with
  | 0|1|2|3|4|5|6|7|8|9|10|11|12=>exact hv
  | i+13=>exact hv
 case hstep=>
  intro i o F U W ho hGW hat hoff hp
  have hrefl:=fun W:World=>(rfl:W=W)
  have e7:F.eval (.tmp 7)=.pointer (some ⟨tb,0,none⟩):=(hoff 7 kd).trans rfl
  have t7:=act_tmp e7
  have e8:F.eval (.tmp 8)=.int .i64 (s:Nat):=(hoff 8 kd).trans rfl
  have t8:=act_tmp e8
  have qa:=Lib.hid hat
  have qb:=Lib.hid hp
  clear hat hoff hp
  match i with
   | 0|1|5|6=>
    cases ho
    exact EY27
   | 2=>
    cases ho
    have t41:=tv qa qb 0 41
    exact EY27
   | 3=>
    cases ho
    have e43:=ev qa qb 2 43
    have t43:=act_tmp e43
    have e42:=ev qa qb 1 42
    have t42:=act_tmp e42
    exact EY16
   | 4=>
    cases ho
    have t44:=tv qa qb 3 44
    have d0:=HC.out
    exact EY27
   | 7=>
    cases ho
    have e47:=ev qa qb 6 47
    have t47:=act_tmp e47
    exact vn ⟨_,rfl,rfl,hGW,hrefl W⟩ (h:=by have q1:=HW1.out;unfold execOp;go_simp;all_goals first|rfl|exact q1|exact congrArg _ q1|omega)
   | 8=>
    cases ho
    have t46:=tv qa qb 5 46
    exact EY27
   | 9=>
    cases ho
    have e49:=ev qa qb 8 49
    have t49:=act_tmp e49
    have e48:=ev qa qb 7 48
    have t48:=act_tmp e48
    exact EY16
   | 10=>
    cases ho
    have t50:=tv qa qb 9 50
    have d0:=HD.out
    exact EY27
   | 11=>
    cases ho
    have t45:=tv qa qb 4 45
    exact EY27
   | 12=>
    cases ho
    have t51:=tv qa qb 10 51
    exact EY27
   | i+13=>exact absurd ho (by simp)
 case hend=>
  intro U W hGW hV
  have hx:U 11=.pointer (some ⟨ga,0,none⟩):=hV 11 kd
  have hy:U 12=.pointer (some ⟨gb,0,none⟩):=hV 12 kd
  clear hV
  obtain rfl:=hGW
  simp [putU,dstAt,Act.put]
  exact HQ.out _ ⟨rfl,rfl,rfl,rfl,hx,hy,trivial⟩
theorem ez8 (Q:Z) (a:Act) (hfr:Fr 170 a [(5,b5),(8,.int .i64 (s:Nat)),(9,ga),(10,gb)]) (h1:Calls prog 24 #[.pointer (some ⟨ga,0,none⟩)] w fun x w'=>x=.returned (.int .i64 f1)/\w'=w) (h2:Calls prog 24 #[.pointer (some ⟨gb,0,none⟩)] w fun x w'=>x=.returned (.int .i64 f2)/\w'=w) (he:IntKind.i64.wrap (max f1 f2+1)=e)
 (hQ:∀ a',Fr 170 a' [(5,b5),(8,.int .i64 (s:Nat)),(9,ga),(10,gb),(11,e)]->Q .normal a' w):(part [1,1,1,1,1,1,0] (codeOf endsF)).wp prog Q a w:=by
 obtain⟨H1,H2,HE,HQ⟩:=J4 h1 h2 he hQ
 clear h1 h2 he hQ
 obtain⟨d,z0,f5,f8,f9,f10,-⟩:=hfr
 have z:=J z0
 have t5:=of_at f5
 have t8:=of_at f8
 have t9:=of_at f9
 have t10:=of_at f10
 clear z0 f5 f8 f9 f10
 refine wp_region_ops (id:=8) kr ?_
 conv=>arg 4;whnf
 refine wpl_v 52 (.pointer (some ⟨ga,0,none⟩)) (by rw [z.out];decide) fun a nx=>?_
 obtain⟨dd,zz,t52,oo⟩:=nx
 replace d:=dd.trans d
 replace z:=J (zz.trans z.out)
 replace t5:=(oo 5 (by decide)).trans t5
 replace t8:=(oo 8 (by decide)).trans t8
 replace t9:=(oo 9 (by decide)).trans t9
 replace t10:=(oo 10 (by decide)).trans t10
 clear dd zz oo
 conv=>arg 4;whnf
 refine wpl_e 53 24 #[.pointer (some ⟨ga,0,none⟩)] (by rw [z.out];decide) (by unfold execOp;go_simp) ?_
 refine H1.out.mono ?_
 rintro x w1 ⟨rfl,rfl⟩
 refine⟨_,rfl,fun a nx=>?_⟩
 obtain⟨dd,zz,t53,oo⟩:=nx
 replace d:=dd.trans d
 replace z:=J (zz.trans z.out)
 replace t5:=(oo 5 (by decide)).trans t5
 replace t8:=(oo 8 (by decide)).trans t8
 replace t9:=(oo 9 (by decide)).trans t9
 replace t10:=(oo 10 (by decide)).trans t10
 clear dd zz oo t52
 conv=>arg 4;whnf
 refine wpl_v 54 (.pointer (some ⟨gb,0,none⟩)) (by rw [z.out];decide) fun a nx=>?_
 obtain⟨dd,zz,t54,oo⟩:=nx
 replace d:=dd.trans d
 replace z:=J (zz.trans z.out)
 replace t5:=(oo 5 (by decide)).trans t5
 replace t8:=(oo 8 (by decide)).trans t8
 replace t9:=(oo 9 (by decide)).trans t9
 replace t10:=(oo 10 (by decide)).trans t10
 replace t53:=(oo 53 (by decide)).trans t53
 clear dd zz oo
 conv=>arg 4;whnf
 refine wpl_e 55 24 #[.pointer (some ⟨gb,0,none⟩)] (by rw [z.out];decide) (by unfold execOp;go_simp) ?_
 refine H2.out.mono ?_
 rintro x w1 ⟨rfl,rfl⟩
 refine⟨_,rfl,fun a nx=>?_⟩
 obtain⟨dd,zz,t55,oo⟩:=nx
 replace d:=dd.trans d
 replace z:=J (zz.trans z.out)
 replace t5:=(oo 5 (by decide)).trans t5
 replace t8:=(oo 8 (by decide)).trans t8
 replace t9:=(oo 9 (by decide)).trans t9
 replace t10:=(oo 10 (by decide)).trans t10
 replace t53:=(oo 53 (by decide)).trans t53
 clear dd zz oo t54
 conv=>arg 4;whnf
 refine wpl_v 56 (.int .i64 (max f1 f2)) (by rw [z.out];decide) (h:=by unfold execOp;go_simp;split<;>omega) fun a nx=>?_
 obtain⟨dd,zz,t56,oo⟩:=nx
 replace d:=dd.trans d
 replace z:=J (zz.trans z.out)
 replace t5:=(oo 5 (by decide)).trans t5
 replace t8:=(oo 8 (by decide)).trans t8
 replace t9:=(oo 9 (by decide)).trans t9
 replace t10:=(oo 10 (by decide)).trans t10
 clear dd zz oo t53 t55
 conv=>arg 4;whnf
 refine wpl_v 57 (.int .i64 e) (by rw [z.out];decide) (h:=by unfold execOp;go_simp;all_goals first|rfl|exact HE.out|exact congrArg _ HE.out) fun a nx=>?_
 obtain⟨dd,zz,t57,oo⟩:=nx
 replace d:=dd.trans d
 replace z:=J (zz.trans z.out)
 replace t5:=(oo 5 (by decide)).trans t5
 replace t8:=(oo 8 (by decide)).trans t8
 replace t9:=(oo 9 (by decide)).trans t9
 replace t10:=(oo 10 (by decide)).trans t10
 clear dd zz oo t56
 conv=>arg 4;whnf
 refine wpl_v 11 (.int .i64 e) (by rw [z.out];decide) fun a nx=>?_
 obtain⟨dd,zz,t11,oo⟩:=nx
 replace d:=dd.trans d
 replace z:=J (zz.trans z.out)
 replace t5:=(oo 5 (by decide)).trans t5
 replace t8:=(oo 8 (by decide)).trans t8
 replace t9:=(oo 9 (by decide)).trans t9
 replace t10:=(oo 10 (by decide)).trans t10
 clear dd zz oo t57
 conv=>arg 4;whnf
 exact HQ.out a ⟨d,z.out,at_of t5,at_of t8,at_of t9,at_of t10,at_of t11,trivial⟩
theorem ez9a (Q:Z) (a:Act) (hfr:Fr 170 a [(5,b5),(8,.int .i64 (s:Nat)),(9,ga),(10,gb),(11,e)]) (hg:decide (16<e)=true)
 (hQ:∀ a',Fr 170 a' [(68,true)]->Q .normal a' w):(part [1,1,1,1,1,1,1,0,0] (codeOf endsF)).wp prog Q a w:=by
 obtain⟨HG,HQ⟩:=J2 hg hQ
 clear hg hQ
 obtain⟨d,z0,f5,f8,f9,f10,f11,-⟩:=hfr
 have z:=J z0
 have t5:=of_at f5
 have t8:=of_at f8
 have t9:=of_at f9
 have t10:=of_at f10
 have t11:=of_at f11
 clear z0 f5 f8 f9 f10 f11
 refine wp_region_ops (id:=9) kr ?_
 conv=>arg 4;whnf
 refine wpl_v 58 (.int .i64 e) (by rw [z.out];decide) fun a nx=>?_
 obtain⟨dd,zz,t58,oo⟩:=nx
 replace d:=dd.trans d
 replace z:=J (zz.trans z.out)
 clear dd zz oo t5 t8 t9 t10 t11
 conv=>arg 4;whnf
 refine wpl_v 59 (.bool true) (by rw [z.out];decide) (h:=by unfold execOp;go_simp;first|exact HG.out|exact of_decide_eq_true HG.out) fun a nx=>?_
 obtain⟨dd,zz,t59,oo⟩:=nx
 replace d:=dd.trans d
 replace z:=J (zz.trans z.out)
 clear dd zz oo t58
 conv=>arg 4;whnf
 refine wpl_v 60 (.bool true) (by rw [z.out];decide) fun a nx=>?_
 obtain⟨dd,zz,t60,oo⟩:=nx
 replace d:=dd.trans d
 replace z:=J (zz.trans z.out)
 clear dd zz oo t59
 conv=>arg 4;whnf
 refine wpl_off 61 t60 (by rw [z.out];decide) fun a nx=>?_
 obtain⟨dd,zz,t61,oo⟩:=nx
 replace d:=dd.trans d
 replace z:=J (zz.trans z.out)
 replace t60:=(oo 60 (by decide)).trans t60
 clear dd zz oo
 conv=>arg 4;whnf
 refine wpl_off 62 t60 (by rw [z.out];decide) fun a nx=>?_
 obtain⟨dd,zz,t62,oo⟩:=nx
 replace d:=dd.trans d
 replace z:=J (zz.trans z.out)
 replace t60:=(oo 60 (by decide)).trans t60
 clear dd zz oo t61
 conv=>arg 4;whnf
 refine wpl_off 63 t60 (by rw [z.out];decide) fun a nx=>?_
 obtain⟨dd,zz,t63,oo⟩:=nx
 replace d:=dd.trans d
 replace z:=J (zz.trans z.out)
 replace t60:=(oo 60 (by decide)).trans t60
 clear dd zz oo t62
 conv=>arg 4;whnf
 refine wpl_off 64 t60 (by rw [z.out];decide) fun a nx=>?_
 obtain⟨dd,zz,t64,oo⟩:=nx
 replace d:=dd.trans d
 replace z:=J (zz.trans z.out)
 replace t60:=(oo 60 (by decide)).trans t60
 clear dd zz oo t63
 conv=>arg 4;whnf
 refine wpl_off 65 t60 (by rw [z.out];decide) fun a nx=>?_
 obtain⟨dd,zz,t65,oo⟩:=nx
 replace d:=dd.trans d
 replace z:=J (zz.trans z.out)
 replace t60:=(oo 60 (by decide)).trans t60
 clear dd zz oo t64
 conv=>arg 4;whnf
 refine wpl_off 66 t60 (by rw [z.out];decide) fun a nx=>?_
 obtain⟨dd,zz,t66,oo⟩:=nx
 replace d:=dd.trans d
 replace z:=J (zz.trans z.out)
 replace t60:=(oo 60 (by decide)).trans t60
 clear dd zz oo t65
 conv=>arg 4;whnf
 refine wpl_off 67 t60 (by rw [z.out];decide) fun a nx=>?_
 obtain⟨dd,zz,t67,oo⟩:=nx
 replace d:=dd.trans d
 replace z:=J (zz.trans z.out)
 replace t60:=(oo 60 (by decide)).trans t60
 clear dd zz oo t66
 conv=>arg 4;whnf
 refine wpl_v 68 (.bool true) (by rw [z.out];decide) fun a nx=>?_
 obtain⟨dd,zz,t68,oo⟩:=nx
 replace d:=dd.trans d
 replace z:=J (zz.trans z.out)
 clear dd zz oo t60 t67
 conv=>arg 4;whnf
 exact HQ.out a ⟨d,z.out,at_of t68,trivial⟩
theorem ez9b (Q:Z) (a:Act) (hfr:Fr 170 a [(5,b5),(8,.int .i64 (s:Nat)),(9,ga),(10,gb),(11,e)]) (hg:decide (16<e)=false) (R:Int->World->Prop) (hA:Calls prog 13 #[.pointer (some ⟨ga,0,none⟩),.agg (cmd0 4 e (s:Nat) 0 0 none 0 0)] w fun x w'=>∃ er dn ep,x=.returned (doneV er dn ep)/\R er w')
 (hQ:∀ a' w' er,Fr 170 a' [(5,b5),(8,.int .i64 (s:Nat)),(9,ga),(10,gb),(11,e),(68,.bool (er != 0))]->R er w'->Q .normal a' w'):(part [1,1,1,1,1,1,1,0,0] (codeOf endsF)).wp prog Q a w:=by
 obtain⟨HG,HA,HQ⟩:=J3 hg hA hQ
 clear hg hA hQ
 obtain⟨d,z0,f5,f8,f9,f10,f11,-⟩:=hfr
 have z:=J z0
 have t5:=of_at f5
 have t8:=of_at f8
 have t9:=of_at f9
 have t10:=of_at f10
 have t11:=of_at f11
 clear z0 f5 f8 f9 f10 f11
 refine wp_region_ops (id:=9) kr ?_
 conv=>arg 4;whnf
 refine wpl_v 58 (.int .i64 e) (by rw [z.out];decide) fun a nx=>?_
 obtain⟨dd,zz,t58,oo⟩:=nx
 replace d:=dd.trans d
 replace z:=J (zz.trans z.out)
 replace t5:=(oo 5 (by decide)).trans t5
 replace t8:=(oo 8 (by decide)).trans t8
 replace t9:=(oo 9 (by decide)).trans t9
 replace t10:=(oo 10 (by decide)).trans t10
 replace t11:=(oo 11 (by decide)).trans t11
 clear dd zz oo
 conv=>arg 4;whnf
 refine wpl_v 59 (.bool false) (by rw [z.out];decide) (h:=by unfold execOp;go_simp;first|exact HG.out|exact Int.not_lt.1 (of_decide_eq_false HG.out)) fun a nx=>?_
 obtain⟨dd,zz,t59,oo⟩:=nx
 replace d:=dd.trans d
 replace z:=J (zz.trans z.out)
 replace t5:=(oo 5 (by decide)).trans t5
 replace t8:=(oo 8 (by decide)).trans t8
 replace t9:=(oo 9 (by decide)).trans t9
 replace t10:=(oo 10 (by decide)).trans t10
 replace t11:=(oo 11 (by decide)).trans t11
 clear dd zz oo t58
 conv=>arg 4;whnf
 refine wpl_v 60 (.bool false) (by rw [z.out];decide) fun a nx=>?_
 obtain⟨dd,zz,t60,oo⟩:=nx
 replace d:=dd.trans d
 replace z:=J (zz.trans z.out)
 replace t5:=(oo 5 (by decide)).trans t5
 replace t8:=(oo 8 (by decide)).trans t8
 replace t9:=(oo 9 (by decide)).trans t9
 replace t10:=(oo 10 (by decide)).trans t10
 replace t11:=(oo 11 (by decide)).trans t11
 clear dd zz oo t59
 conv=>arg 4;whnf
 refine wpl_on t60 ?_
 refine wpl_v 61 (.pointer (some ⟨ga,0,none⟩)) (by rw [z.out];decide) fun a nx=>?_
 obtain⟨dd,zz,t61,oo⟩:=nx
 replace d:=dd.trans d
 replace z:=J (zz.trans z.out)
 replace t5:=(oo 5 (by decide)).trans t5
 replace t8:=(oo 8 (by decide)).trans t8
 replace t9:=(oo 9 (by decide)).trans t9
 replace t10:=(oo 10 (by decide)).trans t10
 replace t11:=(oo 11 (by decide)).trans t11
 replace t60:=(oo 60 (by decide)).trans t60
 clear dd zz oo
 conv=>arg 4;whnf
 refine wpl_on t60 ?_
 refine wpl_v 62 (.int .i64 e) (by rw [z.out];decide) fun a nx=>?_
 obtain⟨dd,zz,t62,oo⟩:=nx
 replace d:=dd.trans d
 replace z:=J (zz.trans z.out)
 replace t5:=(oo 5 (by decide)).trans t5
 replace t8:=(oo 8 (by decide)).trans t8
 replace t9:=(oo 9 (by decide)).trans t9
 replace t10:=(oo 10 (by decide)).trans t10
 replace t11:=(oo 11 (by decide)).trans t11
 replace t60:=(oo 60 (by decide)).trans t60
 replace t61:=(oo 61 (by decide)).trans t61
 clear dd zz oo
 conv=>arg 4;whnf
 refine wpl_on t60 ?_
 refine wpl_v 63 (.int .i64 (s:Nat)) (by rw [z.out];decide) fun a nx=>?_
 obtain⟨dd,zz,t63,oo⟩:=nx
 replace d:=dd.trans d
 replace z:=J (zz.trans z.out)
 replace t5:=(oo 5 (by decide)).trans t5
 replace t8:=(oo 8 (by decide)).trans t8
 replace t9:=(oo 9 (by decide)).trans t9
 replace t10:=(oo 10 (by decide)).trans t10
 replace t11:=(oo 11 (by decide)).trans t11
 replace t60:=(oo 60 (by decide)).trans t60
 replace t61:=(oo 61 (by decide)).trans t61
 replace t62:=(oo 62 (by decide)).trans t62
 clear dd zz oo
 conv=>arg 4;whnf
 refine wpl_on t60 ?_
 refine wpl_v 64 (.agg (cmd0 4 e (s:Nat) 0 0 none 0 0)) (by rw [z.out];decide) fun a nx=>?_
 obtain⟨dd,zz,t64,oo⟩:=nx
 replace d:=dd.trans d
 replace z:=J (zz.trans z.out)
 replace t5:=(oo 5 (by decide)).trans t5
 replace t8:=(oo 8 (by decide)).trans t8
 replace t9:=(oo 9 (by decide)).trans t9
 replace t10:=(oo 10 (by decide)).trans t10
 replace t11:=(oo 11 (by decide)).trans t11
 replace t60:=(oo 60 (by decide)).trans t60
 replace t61:=(oo 61 (by decide)).trans t61
 clear dd zz oo t62 t63
 conv=>arg 4;whnf
 refine wpl_on t60 ?_
 refine wpl_e 65 13 #[.pointer (some ⟨ga,0,none⟩),.agg (cmd0 4 e (s:Nat) 0 0 none 0 0)] (by rw [z.out];decide) (by unfold execOp;go_simp) ?_
 refine HA.out.mono ?_
 rintro x w1 ⟨er,dn,ep,rfl,hr⟩
 refine⟨_,rfl,fun a nx=>?_⟩
 obtain⟨dd,zz,t65,oo⟩:=nx
 replace d:=dd.trans d
 replace z:=J (zz.trans z.out)
 replace t5:=(oo 5 (by decide)).trans t5
 replace t8:=(oo 8 (by decide)).trans t8
 replace t9:=(oo 9 (by decide)).trans t9
 replace t10:=(oo 10 (by decide)).trans t10
 replace t11:=(oo 11 (by decide)).trans t11
 replace t60:=(oo 60 (by decide)).trans t60
 clear dd zz oo t61 t64
 conv=>arg 4;whnf
 refine wpl_on t60 ?_
 have qf:∀ w,(Instr.field 50 (.agg #[.int .i64 er,.int .i64 dn,.int .i64 ep]) 0).run prog w=.ok (.int .i64 er) w:=fun w=>by kernel_rfl
 refine wpl_v 66 (.int .i64 er) (by rw [z.out];decide) fun a nx=>?_
 obtain⟨dd,zz,t66,oo⟩:=nx
 replace d:=dd.trans d
 replace z:=J (zz.trans z.out)
 replace t5:=(oo 5 (by decide)).trans t5
 replace t8:=(oo 8 (by decide)).trans t8
 replace t9:=(oo 9 (by decide)).trans t9
 replace t10:=(oo 10 (by decide)).trans t10
 replace t11:=(oo 11 (by decide)).trans t11
 replace t60:=(oo 60 (by decide)).trans t60
 clear dd zz oo t65
 conv=>arg 4;whnf
 refine wpl_on t60 ?_
 refine wpl_v 67 (.bool (er != 0)) (by rw [z.out];decide) fun a nx=>?_
 obtain⟨dd,zz,t67,oo⟩:=nx
 replace d:=dd.trans d
 replace z:=J (zz.trans z.out)
 replace t5:=(oo 5 (by decide)).trans t5
 replace t8:=(oo 8 (by decide)).trans t8
 replace t9:=(oo 9 (by decide)).trans t9
 replace t10:=(oo 10 (by decide)).trans t10
 replace t11:=(oo 11 (by decide)).trans t11
 replace t60:=(oo 60 (by decide)).trans t60
 clear dd zz oo t66
 conv=>arg 4;whnf
 refine wpl_v 68 (.bool (er != 0)) (by rw [z.out];decide) fun a nx=>?_
 obtain⟨dd,zz,t68,oo⟩:=nx
 replace d:=dd.trans d
 replace z:=J (zz.trans z.out)
 replace t5:=(oo 5 (by decide)).trans t5
 replace t8:=(oo 8 (by decide)).trans t8
 replace t9:=(oo 9 (by decide)).trans t9
 replace t10:=(oo 10 (by decide)).trans t10
 replace t11:=(oo 11 (by decide)).trans t11
 clear dd zz oo t60 t67
 conv=>arg 4;whnf
 exact HQ.out a w1 er ⟨d,z.out,at_of t5,at_of t8,at_of t9,at_of t10,at_of t11,at_of t68,trivial⟩ hr
theorem ez11 (Q:Z) (a:Act) (hfr:Fr 170 a [(5,b5),(8,.int .i64 (s:Nat)),(9,ga),(10,gb),(11,e)]) (R:O->Nat->World->Prop) (hA:Calls prog 22 #[.pointer (some ⟨ga,0,none⟩)] w fun x w'=>∃ oA oc,x=.returned (.slice oA n oc)/\R oA oc w')
 (hQ:∀ a' w' oA oc,Fr 170 a' [(5,b5),(8,.int .i64 (s:Nat)),(9,ga),(10,gb),(11,e),(12,.slice oA n oc)]->R oA oc w'->Q .normal a' w'):(part [1,1,1,1,1,1,1,1,0] (codeOf endsF)).wp prog Q a w:=by
 obtain⟨HA,HQ⟩:=J2 hA hQ
 clear hA hQ
 obtain⟨d,z0,f5,f8,f9,f10,f11,-⟩:=hfr
 have z:=J z0
 have t5:=of_at f5
 have t8:=of_at f8
 have t9:=of_at f9
 have t10:=of_at f10
 have t11:=of_at f11
 clear z0 f5 f8 f9 f10 f11
 refine wp_region_ops (id:=11) kr ?_
 conv=>arg 4;whnf
 refine wpl_v 69 (.pointer (some ⟨ga,0,none⟩)) (by rw [z.out];decide) fun a nx=>?_
 obtain⟨dd,zz,t69,oo⟩:=nx
 replace d:=dd.trans d
 replace z:=J (zz.trans z.out)
 replace t5:=(oo 5 (by decide)).trans t5
 replace t8:=(oo 8 (by decide)).trans t8
 replace t9:=(oo 9 (by decide)).trans t9
 replace t10:=(oo 10 (by decide)).trans t10
 replace t11:=(oo 11 (by decide)).trans t11
 clear dd zz oo
 conv=>arg 4;whnf
 refine wpl_e 70 22 #[.pointer (some ⟨ga,0,none⟩)] (by rw [z.out];decide) (by unfold execOp;go_simp) ?_
 refine HA.out.mono ?_
 rintro x w1 ⟨oA,oc,rfl,hr⟩
 refine⟨_,rfl,fun a nx=>?_⟩
 obtain⟨dd,zz,t70,oo⟩:=nx
 replace d:=dd.trans d
 replace z:=J (zz.trans z.out)
 replace t5:=(oo 5 (by decide)).trans t5
 replace t8:=(oo 8 (by decide)).trans t8
 replace t9:=(oo 9 (by decide)).trans t9
 replace t10:=(oo 10 (by decide)).trans t10
 replace t11:=(oo 11 (by decide)).trans t11
 clear dd zz oo t69
 conv=>arg 4;whnf
 refine wpl_v 12 (.slice oA n oc) (by rw [z.out];decide) fun a nx=>?_
 obtain⟨dd,zz,t12,oo⟩:=nx
 replace d:=dd.trans d
 replace z:=J (zz.trans z.out)
 replace t5:=(oo 5 (by decide)).trans t5
 replace t8:=(oo 8 (by decide)).trans t8
 replace t9:=(oo 9 (by decide)).trans t9
 replace t10:=(oo 10 (by decide)).trans t10
 replace t11:=(oo 11 (by decide)).trans t11
 clear dd zz oo t70
 conv=>arg 4;whnf
 exact HQ.out a w1 oA oc ⟨d,z.out,at_of t5,at_of t8,at_of t9,at_of t10,at_of t11,at_of t12,trivial⟩ hr
theorem ez12 (Q:Z) (a:Act) (hfr:Fr 170 a [(5,b5),(8,.int .i64 (s:Nat)),(9,ga),(10,gb),(11,e),(12,.slice oA n oc)]) (R:World->Prop) (hA:Calls prog 25 #[e,.int .i64 (s:Nat),.int .i64 (n:Nat)] w fun x w'=>x=.returned (.tuple #[.pointer (some ⟨lb,0,none⟩),.int .i64 0])/\R w')
 (hQ:∀ a' w',Fr 170 a' [(5,b5),(9,ga),(10,gb),(12,.slice oA n oc),(13,lb),(14,.int .i64 0)]->R w'->Q .normal a' w'):(part [1,1,1,1,1,1,1,1,1,0] (codeOf endsF)).wp prog Q a w:=by
 obtain⟨HA,HQ⟩:=J2 hA hQ
 clear hA hQ
 obtain⟨d,z0,f5,f8,f9,f10,f11,f12,-⟩:=hfr
 have z:=J z0
 have t5:=of_at f5
 have t8:=of_at f8
 have t9:=of_at f9
 have t10:=of_at f10
 have t11:=of_at f11
 have t12:=of_at f12
 clear z0 f5 f8 f9 f10 f11 f12
 refine wp_region_ops (id:=12) kr ?_
 conv=>arg 4;whnf
 refine wpl_v 72 (.int .i64 e) (by rw [z.out];decide) fun a nx=>?_
 obtain⟨dd,zz,t72,oo⟩:=nx
 replace d:=dd.trans d
 replace z:=J (zz.trans z.out)
 replace t5:=(oo 5 (by decide)).trans t5
 replace t8:=(oo 8 (by decide)).trans t8
 replace t9:=(oo 9 (by decide)).trans t9
 replace t10:=(oo 10 (by decide)).trans t10
 replace t12:=(oo 12 (by decide)).trans t12
 clear dd zz oo t11
 conv=>arg 4;whnf
 refine wpl_v 73 (.int .i64 (s:Nat)) (by rw [z.out];decide) fun a nx=>?_
 obtain⟨dd,zz,t73,oo⟩:=nx
 replace d:=dd.trans d
 replace z:=J (zz.trans z.out)
 replace t5:=(oo 5 (by decide)).trans t5
 replace t9:=(oo 9 (by decide)).trans t9
 replace t10:=(oo 10 (by decide)).trans t10
 replace t12:=(oo 12 (by decide)).trans t12
 replace t72:=(oo 72 (by decide)).trans t72
 clear dd zz oo t8
 conv=>arg 4;whnf
 refine wpl_v 74 (.slice oA n oc) (by rw [z.out];decide) fun a nx=>?_
 obtain⟨dd,zz,t74,oo⟩:=nx
 replace d:=dd.trans d
 replace z:=J (zz.trans z.out)
 replace t5:=(oo 5 (by decide)).trans t5
 replace t9:=(oo 9 (by decide)).trans t9
 replace t10:=(oo 10 (by decide)).trans t10
 replace t12:=(oo 12 (by decide)).trans t12
 replace t72:=(oo 72 (by decide)).trans t72
 replace t73:=(oo 73 (by decide)).trans t73
 clear dd zz oo
 conv=>arg 4;whnf
 refine wpl_v 75 (.int .i64 (n:Nat)) (by rw [z.out];decide) fun a nx=>?_
 obtain⟨dd,zz,t75,oo⟩:=nx
 replace d:=dd.trans d
 replace z:=J (zz.trans z.out)
 replace t5:=(oo 5 (by decide)).trans t5
 replace t9:=(oo 9 (by decide)).trans t9
 replace t10:=(oo 10 (by decide)).trans t10
 replace t12:=(oo 12 (by decide)).trans t12
 replace t72:=(oo 72 (by decide)).trans t72
 replace t73:=(oo 73 (by decide)).trans t73
 clear dd zz oo t74
 conv=>arg 4;whnf
 refine wpl_e 76 25 #[e,.int .i64 (s:Nat),.int .i64 (n:Nat)] (by rw [z.out];decide) (by unfold execOp;go_simp) ?_
 refine HA.out.mono ?_
 rintro x w1 ⟨rfl,hr⟩
 refine⟨_,rfl,fun a nx=>?_⟩
 obtain⟨dd,zz,t76,oo⟩:=nx
 replace d:=dd.trans d
 replace z:=J (zz.trans z.out)
 replace t5:=(oo 5 (by decide)).trans t5
 replace t9:=(oo 9 (by decide)).trans t9
 replace t10:=(oo 10 (by decide)).trans t10
 replace t12:=(oo 12 (by decide)).trans t12
 clear dd zz oo t72 t73 t75
 conv=>arg 4;whnf
 refine wpl_v 71 (.tuple #[.pointer (some ⟨lb,0,none⟩),.int .i64 0]) (by rw [z.out];decide) fun a nx=>?_
 obtain⟨dd,zz,t71,oo⟩:=nx
 replace d:=dd.trans d
 replace z:=J (zz.trans z.out)
 replace t5:=(oo 5 (by decide)).trans t5
 replace t9:=(oo 9 (by decide)).trans t9
 replace t10:=(oo 10 (by decide)).trans t10
 replace t12:=(oo 12 (by decide)).trans t12
 clear dd zz oo t76
 conv=>arg 4;whnf
 refine wpl_v 77 (.pointer (some ⟨lb,0,none⟩)) (by rw [z.out];decide) fun a nx=>?_
 obtain⟨dd,zz,t77,oo⟩:=nx
 replace d:=dd.trans d
 replace z:=J (zz.trans z.out)
 replace t5:=(oo 5 (by decide)).trans t5
 replace t9:=(oo 9 (by decide)).trans t9
 replace t10:=(oo 10 (by decide)).trans t10
 replace t12:=(oo 12 (by decide)).trans t12
 replace t71:=(oo 71 (by decide)).trans t71
 clear dd zz oo
 conv=>arg 4;whnf
 refine wpl_v 78 (.int .i64 0) (by rw [z.out];decide) fun a nx=>?_
 obtain⟨dd,zz,t78,oo⟩:=nx
 replace d:=dd.trans d
 replace z:=J (zz.trans z.out)
 replace t5:=(oo 5 (by decide)).trans t5
 replace t9:=(oo 9 (by decide)).trans t9
 replace t10:=(oo 10 (by decide)).trans t10
 replace t12:=(oo 12 (by decide)).trans t12
 replace t77:=(oo 77 (by decide)).trans t77
 clear dd zz oo t71
 conv=>arg 4;whnf
 refine wpl_v 13 (.pointer (some ⟨lb,0,none⟩)) (by rw [z.out];decide) fun a nx=>?_
 obtain⟨dd,zz,t13,oo⟩:=nx
 replace d:=dd.trans d
 replace z:=J (zz.trans z.out)
 replace t5:=(oo 5 (by decide)).trans t5
 replace t9:=(oo 9 (by decide)).trans t9
 replace t10:=(oo 10 (by decide)).trans t10
 replace t12:=(oo 12 (by decide)).trans t12
 replace t78:=(oo 78 (by decide)).trans t78
 clear dd zz oo t77
 conv=>arg 4;whnf
 refine wpl_v 14 (.int .i64 0) (by rw [z.out];decide) fun a nx=>?_
 obtain⟨dd,zz,t14,oo⟩:=nx
 replace d:=dd.trans d
 replace z:=J (zz.trans z.out)
 replace t5:=(oo 5 (by decide)).trans t5
 replace t9:=(oo 9 (by decide)).trans t9
 replace t10:=(oo 10 (by decide)).trans t10
 replace t12:=(oo 12 (by decide)).trans t12
 replace t13:=(oo 13 (by decide)).trans t13
 clear dd zz oo t78
 conv=>arg 4;whnf
 exact HQ.out a w1 ⟨d,z.out,at_of t5,at_of t9,at_of t10,at_of t12,at_of t13,at_of t14,trivial⟩ hr
theorem ez13 (Q:Z) (a:Act) (hfr:Fr 170 a [(5,b5),(9,ga),(10,gb),(12,.slice oA n oc),(13,lb),(14,.int .i64 0)])
 (hQ:∀ a',Fr 170 a' [(5,b5),(9,ga),(10,gb),(12,.slice oA n oc),(13,lb),(80,false)]->Q .normal a' w):(part [1,1,1,1,1,1,1,1,1,1,0,0] (codeOf endsF)).wp prog Q a w:=by
 have HQ:=J hQ
 clear hQ
 obtain⟨d,z0,f5,f9,f10,f12,f13,f14,-⟩:=hfr
 have z:=J z0
 have t5:=of_at f5
 have t9:=of_at f9
 have t10:=of_at f10
 have t12:=of_at f12
 have t13:=of_at f13
 have t14:=of_at f14
 clear z0 f5 f9 f10 f12 f13 f14
 refine wp_region_ops (id:=13) kr ?_
 conv=>arg 4;whnf
 refine wpl_v 79 (.int .i64 0) (by rw [z.out];decide) fun a nx=>?_
 obtain⟨dd,zz,t79,oo⟩:=nx
 replace d:=dd.trans d
 replace z:=J (zz.trans z.out)
 replace t5:=(oo 5 (by decide)).trans t5
 replace t9:=(oo 9 (by decide)).trans t9
 replace t10:=(oo 10 (by decide)).trans t10
 replace t12:=(oo 12 (by decide)).trans t12
 replace t13:=(oo 13 (by decide)).trans t13
 clear dd zz oo t14
 conv=>arg 4;whnf
 refine wpl_v 80 (.bool false) (by rw [z.out];decide) fun a nx=>?_
 obtain⟨dd,zz,t80,oo⟩:=nx
 replace d:=dd.trans d
 replace z:=J (zz.trans z.out)
 replace t5:=(oo 5 (by decide)).trans t5
 replace t9:=(oo 9 (by decide)).trans t9
 replace t10:=(oo 10 (by decide)).trans t10
 replace t12:=(oo 12 (by decide)).trans t12
 replace t13:=(oo 13 (by decide)).trans t13
 clear dd zz oo t79
 conv=>arg 4;whnf
 exact HQ.out a ⟨d,z.out,at_of t5,at_of t9,at_of t10,at_of t12,at_of t13,at_of t80,trivial⟩
theorem ez15 (Q:Z) (a:Act) (hfr:Fr 170 a [(5,b5),(9,ga),(10,gb),(12,.slice oA n oc),(13,lb)])
 (hQ:∀ a',Fr 170 a' [(5,b5),(9,ga),(10,gb),(12,.slice oA n oc),(13,lb),(15,.slice none 0 0)]->Q .normal a' w):(part [1,1,1,1,1,1,1,1,1,1,1,0] (codeOf endsF)).wp prog Q a w:=by
 have HQ:=J hQ
 clear hQ
 obtain⟨d,z0,f5,f9,f10,f12,f13,-⟩:=hfr
 have z:=J z0
 have t5:=of_at f5
 have t9:=of_at f9
 have t10:=of_at f10
 have t12:=of_at f12
 have t13:=of_at f13
 clear z0 f5 f9 f10 f12 f13
 refine wp_region_ops (id:=15) kr ?_
 conv=>arg 4;whnf
 refine wpl_v 15 (.slice none 0 0) (by rw [z.out];decide) fun a nx=>?_
 obtain⟨dd,zz,t15,oo⟩:=nx
 replace d:=dd.trans d
 replace z:=J (zz.trans z.out)
 replace t5:=(oo 5 (by decide)).trans t5
 replace t9:=(oo 9 (by decide)).trans t9
 replace t10:=(oo 10 (by decide)).trans t10
 replace t12:=(oo 12 (by decide)).trans t12
 replace t13:=(oo 13 (by decide)).trans t13
 clear dd zz oo
 conv=>arg 4;whnf
 exact HQ.out a ⟨d,z.out,at_of t5,at_of t9,at_of t10,at_of t12,at_of t13,at_of t15,trivial⟩
theorem ez16 (Q:Z) (a:Act) (hfr:Fr 170 a [(5,b5),(9,ga),(10,gb),(12,.slice oA n oc),(13,lb),(15,.slice none 0 0)]) (hn:n<=80)
 (hQ:∀ a',Fr 170 a' [(5,b5),(9,ga),(10,gb),(12,.slice oA n oc),(13,lb),(15,.slice none 0 0),(86,.int .i64 ((38+2*n / 8:Nat):Nat)),(87,.int .i64 ((0:Nat):Nat))]->Q .normal a' w):(part [1,1,1,1,1,1,1,1,1,1,1,1,0,0] (codeOf endsF)).wp prog Q a w:=by
 have e1:IntKind.i64.wrap (2*(n:Int))=((2*n:Nat):Int):=(IntWalk.i64_in _ (by omega)).trans (by omega)
 have e2:IntKind.i64.wrap (Int.tdiv ((2*n:Nat):Int) 8)=((2*n / 8:Nat):Int):=by
  rw [show Int.tdiv ((2*n:Nat):Int) 8=((2*n / 8:Nat):Int) from by rw [Int.tdiv_eq_ediv_of_nonneg (by omega)];omega]
  exact IntWalk.i64_in _ (by omega)
 have e3:IntKind.i64.wrap (32+((2*n / 8:Nat):Int))=((32+2*n / 8:Nat):Int):=(IntWalk.i64_in _ (by omega)).trans (by omega)
 have e4:IntKind.i64.wrap (((32+2*n / 8:Nat):Int)+6)=((38+2*n / 8:Nat):Int):=(IntWalk.i64_in _ (by omega)).trans (by omega)
 obtain⟨E1,E2,E3,E4⟩:=J4 e1 e2 e3 e4
 clear e1 e2 e3 e4
 have HQ:=J hQ
 clear hQ
 obtain⟨d,z0,f5,f9,f10,f12,f13,f15,-⟩:=hfr
 have z:=J z0
 have t5:=of_at f5
 have t9:=of_at f9
 have t10:=of_at f10
 have t12:=of_at f12
 have t13:=of_at f13
 have t15:=of_at f15
 clear z0 f5 f9 f10 f12 f13 f15
 refine wp_region_ops (id:=16) kr ?_
 conv=>arg 4;whnf
 refine wpl_v 81 (.slice oA n oc) (by rw [z.out];decide) fun a nx=>?_
 obtain⟨dd,zz,t81,oo⟩:=nx
 replace d:=dd.trans d
 replace z:=J (zz.trans z.out)
 replace t5:=(oo 5 (by decide)).trans t5
 replace t9:=(oo 9 (by decide)).trans t9
 replace t10:=(oo 10 (by decide)).trans t10
 replace t12:=(oo 12 (by decide)).trans t12
 replace t13:=(oo 13 (by decide)).trans t13
 replace t15:=(oo 15 (by decide)).trans t15
 clear dd zz oo
 conv=>arg 4;whnf
 refine wpl_v 82 (.int .i64 (n:Nat)) (by rw [z.out];decide) fun a nx=>?_
 obtain⟨dd,zz,t82,oo⟩:=nx
 replace d:=dd.trans d
 replace z:=J (zz.trans z.out)
 replace t5:=(oo 5 (by decide)).trans t5
 replace t9:=(oo 9 (by decide)).trans t9
 replace t10:=(oo 10 (by decide)).trans t10
 replace t12:=(oo 12 (by decide)).trans t12
 replace t13:=(oo 13 (by decide)).trans t13
 replace t15:=(oo 15 (by decide)).trans t15
 clear dd zz oo t81
 conv=>arg 4;whnf
 refine wpl_v 83 (.int .i64 ((2*n:Nat):Nat)) (by rw [z.out];decide) (h:=by unfold execOp;go_simp;all_goals first|rfl|exact E1.out|exact congrArg _ E1.out|omega) fun a nx=>?_
 obtain⟨dd,zz,t83,oo⟩:=nx
 replace d:=dd.trans d
 replace z:=J (zz.trans z.out)
 replace t5:=(oo 5 (by decide)).trans t5
 replace t9:=(oo 9 (by decide)).trans t9
 replace t10:=(oo 10 (by decide)).trans t10
 replace t12:=(oo 12 (by decide)).trans t12
 replace t13:=(oo 13 (by decide)).trans t13
 replace t15:=(oo 15 (by decide)).trans t15
 clear dd zz oo t82
 conv=>arg 4;whnf
 refine wpl_v 84 (.int .i64 ((2*n / 8:Nat):Nat)) (by rw [z.out];decide) (h:=by unfold execOp;go_simp;all_goals first|rfl|exact E2.out|exact congrArg _ E2.out|omega) fun a nx=>?_
 obtain⟨dd,zz,t84,oo⟩:=nx
 replace d:=dd.trans d
 replace z:=J (zz.trans z.out)
 replace t5:=(oo 5 (by decide)).trans t5
 replace t9:=(oo 9 (by decide)).trans t9
 replace t10:=(oo 10 (by decide)).trans t10
 replace t12:=(oo 12 (by decide)).trans t12
 replace t13:=(oo 13 (by decide)).trans t13
 replace t15:=(oo 15 (by decide)).trans t15
 clear dd zz oo t83
 conv=>arg 4;whnf
 refine wpl_v 85 (.int .i64 ((32+2*n / 8:Nat):Nat)) (by rw [z.out];decide) (h:=by unfold execOp;go_simp;all_goals first|rfl|exact E3.out|exact congrArg _ E3.out|omega) fun a nx=>?_
 obtain⟨dd,zz,t85,oo⟩:=nx
 replace d:=dd.trans d
 replace z:=J (zz.trans z.out)
 replace t5:=(oo 5 (by decide)).trans t5
 replace t9:=(oo 9 (by decide)).trans t9
 replace t10:=(oo 10 (by decide)).trans t10
 replace t12:=(oo 12 (by decide)).trans t12
 replace t13:=(oo 13 (by decide)).trans t13
 replace t15:=(oo 15 (by decide)).trans t15
 clear dd zz oo t84
 conv=>arg 4;whnf
 refine wpl_v 86 (.int .i64 ((38+2*n / 8:Nat):Nat)) (by rw [z.out];decide) (h:=by unfold execOp;go_simp;all_goals first|rfl|exact E4.out|exact congrArg _ E4.out|omega) fun a nx=>?_
 obtain⟨dd,zz,t86,oo⟩:=nx
 replace d:=dd.trans d
 replace z:=J (zz.trans z.out)
 replace t5:=(oo 5 (by decide)).trans t5
 replace t9:=(oo 9 (by decide)).trans t9
 replace t10:=(oo 10 (by decide)).trans t10
 replace t12:=(oo 12 (by decide)).trans t12
 replace t13:=(oo 13 (by decide)).trans t13
 replace t15:=(oo 15 (by decide)).trans t15
 clear dd zz oo t85
 conv=>arg 4;whnf
 refine wpl_v 87 (.int .i64 ((0:Nat):Nat)) (by rw [z.out];decide) fun a nx=>?_
 obtain⟨dd,zz,t87,oo⟩:=nx
 replace d:=dd.trans d
 replace z:=J (zz.trans z.out)
 replace t5:=(oo 5 (by decide)).trans t5
 replace t9:=(oo 9 (by decide)).trans t9
 replace t10:=(oo 10 (by decide)).trans t10
 replace t12:=(oo 12 (by decide)).trans t12
 replace t13:=(oo 13 (by decide)).trans t13
 replace t15:=(oo 15 (by decide)).trans t15
 replace t86:=(oo 86 (by decide)).trans t86
 clear dd zz oo
 conv=>arg 4;whnf
 exact HQ.out a ⟨d,z.out,at_of t5,at_of t9,at_of t10,at_of t12,at_of t13,at_of t15,at_of t86,at_of t87,trivial⟩
theorem ez28 (Q:Z) (a:Act) (hfr:Fr 170 a [(5,b5),(9,ga),(10,gb),(12,.slice oA n oc),(13,lb),(15,.slice sA sn sc)]) (hM:∀ W,Below w w W->Calls prog 29 #[.pointer (some ⟨lb,0,none⟩)] W fun x w'=>x=.returned (.agg #[u,v])/\Below W W w')
 (hLa:∀ W,Below w w W->Calls prog 30 #[.pointer (some ⟨ga,0,none⟩)] W fun x w'=>x=.returned (.agg #[u,v])/\Below W W w')
 (hLb:∀ W,Below w w W->Calls prog 30 #[.pointer (some ⟨gb,0,none⟩)] W fun x w'=>x=.returned (.agg #[u,v])/\Below W W w')
 (M:O->Nat->World->Prop) (hO:∀ W,Below w w W->Calls prog 22 #[.pointer (some ⟨gb,0,none⟩)] W fun x w'=>∃ oA2 oc2,x=.returned (.slice oA2 n oc2)/\M oA2 oc2 w'/\Below W W w')
 (hS:∀ oA2 oc2 W,Below w w W->M oA2 oc2 W->Calls prog 21 #[.slice oA2 n oc2,.slice oA n oc] W fun x w'=>x=.returned (.bool true)/\Below W W w')
 (hQ:∀ a' w',Fr 170 a' [(5,b5),(9,ga),(10,gb),(12,.slice oA n oc),(13,lb),(15,.slice sA sn sc),(137,false)]->Below w w w'->Q .normal a' w'):(part [1,1,1,1,1,1,1,1,1,1,1,1,1,0,0] (codeOf endsF)).wp prog Q a w:=by
 obtain⟨HM,HLA,HLB,HO,HS,HQ⟩:=J6 hM hLa hLb hO hS hQ
 clear hM hLa hLb hO hS hQ
 obtain⟨d,z0,f5,f9,f10,f12,f13,f15,-⟩:=hfr
 have z:=J z0
 have t5:=of_at f5
 have t9:=of_at f9
 have t10:=of_at f10
 have t12:=of_at f12
 have t13:=of_at f13
 have t15:=of_at f15
 clear z0 f5 f9 f10 f12 f13 f15
 have b0:=J (Below.refl w.heap.size w)
 refine wp_region_ops (id:=28) kr ?_
 conv=>arg 4;whnf
 refine wpl_v 119 (.pointer (some ⟨lb,0,none⟩)) (by rw [z.out];decide) fun a nx=>?_
 obtain⟨dd,zz,t119,oo⟩:=nx
 replace d:=dd.trans d
 replace z:=J (zz.trans z.out)
 replace t5:=(oo 5 (by decide)).trans t5
 replace t9:=(oo 9 (by decide)).trans t9
 replace t10:=(oo 10 (by decide)).trans t10
 replace t12:=(oo 12 (by decide)).trans t12
 replace t13:=(oo 13 (by decide)).trans t13
 replace t15:=(oo 15 (by decide)).trans t15
 clear dd zz oo
 conv=>arg 4;whnf
 refine wpl_e 120 29 #[.pointer (some ⟨lb,0,none⟩)] (by rw [z.out];decide) (by unfold execOp;go_simp) ?_
 refine (HM.out _ b0.out).mono ?_
 rintro x w1 ⟨rfl,hb1⟩
 replace b0:=J (b0.out.trans (hb1.mono b0.out.size))
 clear hb1
 refine⟨_,rfl,fun a nx=>?_⟩
 obtain⟨dd,zz,t120,oo⟩:=nx
 replace d:=dd.trans d
 replace z:=J (zz.trans z.out)
 replace t5:=(oo 5 (by decide)).trans t5
 replace t9:=(oo 9 (by decide)).trans t9
 replace t10:=(oo 10 (by decide)).trans t10
 replace t12:=(oo 12 (by decide)).trans t12
 replace t13:=(oo 13 (by decide)).trans t13
 replace t15:=(oo 15 (by decide)).trans t15
 clear dd zz oo t119
 conv=>arg 4;whnf
 refine wpl_v 121 (.pointer (some ⟨ga,0,none⟩)) (by rw [z.out];decide) fun a nx=>?_
 obtain⟨dd,zz,t121,oo⟩:=nx
 replace d:=dd.trans d
 replace z:=J (zz.trans z.out)
 replace t5:=(oo 5 (by decide)).trans t5
 replace t9:=(oo 9 (by decide)).trans t9
 replace t10:=(oo 10 (by decide)).trans t10
 replace t12:=(oo 12 (by decide)).trans t12
 replace t13:=(oo 13 (by decide)).trans t13
 replace t15:=(oo 15 (by decide)).trans t15
 replace t120:=(oo 120 (by decide)).trans t120
 clear dd zz oo
 conv=>arg 4;whnf
 refine wpl_e 122 30 #[.pointer (some ⟨ga,0,none⟩)] (by rw [z.out];decide) (by unfold execOp;go_simp) ?_
 refine (HLA.out _ b0.out).mono ?_
 rintro x w1 ⟨rfl,hb1⟩
 replace b0:=J (b0.out.trans (hb1.mono b0.out.size))
 clear hb1
 refine⟨_,rfl,fun a nx=>?_⟩
 obtain⟨dd,zz,t122,oo⟩:=nx
 replace d:=dd.trans d
 replace z:=J (zz.trans z.out)
 replace t5:=(oo 5 (by decide)).trans t5
 replace t9:=(oo 9 (by decide)).trans t9
 replace t10:=(oo 10 (by decide)).trans t10
 replace t12:=(oo 12 (by decide)).trans t12
 replace t13:=(oo 13 (by decide)).trans t13
 replace t15:=(oo 15 (by decide)).trans t15
 replace t120:=(oo 120 (by decide)).trans t120
 clear dd zz oo t121
 conv=>arg 4;whnf
 refine wpl_v 123 (.bool false) (by rw [z.out];decide) fun a nx=>?_
 obtain⟨dd,zz,t123,oo⟩:=nx
 replace d:=dd.trans d
 replace z:=J (zz.trans z.out)
 replace t5:=(oo 5 (by decide)).trans t5
 replace t9:=(oo 9 (by decide)).trans t9
 replace t10:=(oo 10 (by decide)).trans t10
 replace t12:=(oo 12 (by decide)).trans t12
 replace t13:=(oo 13 (by decide)).trans t13
 replace t15:=(oo 15 (by decide)).trans t15
 clear dd zz oo t120 t122
 conv=>arg 4;whnf
 refine wpl_v 124 (.bool false) (by rw [z.out];decide) fun a nx=>?_
 obtain⟨dd,zz,t124,oo⟩:=nx
 replace d:=dd.trans d
 replace z:=J (zz.trans z.out)
 replace t5:=(oo 5 (by decide)).trans t5
 replace t9:=(oo 9 (by decide)).trans t9
 replace t10:=(oo 10 (by decide)).trans t10
 replace t12:=(oo 12 (by decide)).trans t12
 replace t13:=(oo 13 (by decide)).trans t13
 replace t15:=(oo 15 (by decide)).trans t15
 clear dd zz oo t123
 conv=>arg 4;whnf
 refine wpl_on t124 ?_
 refine wpl_v 125 (.pointer (some ⟨gb,0,none⟩)) (by rw [z.out];decide) fun a nx=>?_
 obtain⟨dd,zz,t125,oo⟩:=nx
 replace d:=dd.trans d
 replace z:=J (zz.trans z.out)
 replace t5:=(oo 5 (by decide)).trans t5
 replace t9:=(oo 9 (by decide)).trans t9
 replace t10:=(oo 10 (by decide)).trans t10
 replace t12:=(oo 12 (by decide)).trans t12
 replace t13:=(oo 13 (by decide)).trans t13
 replace t15:=(oo 15 (by decide)).trans t15
 replace t124:=(oo 124 (by decide)).trans t124
 clear dd zz oo
 conv=>arg 4;whnf
 refine wpl_on t124 ?_
 refine wpl_e 126 30 #[.pointer (some ⟨gb,0,none⟩)] (by rw [z.out];decide) (by unfold execOp;go_simp) ?_
 refine (HLB.out _ b0.out).mono ?_
 rintro x w1 ⟨rfl,hb1⟩
 replace b0:=J (b0.out.trans (hb1.mono b0.out.size))
 clear hb1
 refine⟨_,rfl,fun a nx=>?_⟩
 obtain⟨dd,zz,t126,oo⟩:=nx
 replace d:=dd.trans d
 replace z:=J (zz.trans z.out)
 replace t5:=(oo 5 (by decide)).trans t5
 replace t9:=(oo 9 (by decide)).trans t9
 replace t10:=(oo 10 (by decide)).trans t10
 replace t12:=(oo 12 (by decide)).trans t12
 replace t13:=(oo 13 (by decide)).trans t13
 replace t15:=(oo 15 (by decide)).trans t15
 replace t124:=(oo 124 (by decide)).trans t124
 clear dd zz oo t125
 conv=>arg 4;whnf
 refine wpl_on t124 ?_
 refine wpl_v 127 (.pointer (some ⟨ga,0,none⟩)) (by rw [z.out];decide) fun a nx=>?_
 obtain⟨dd,zz,t127,oo⟩:=nx
 replace d:=dd.trans d
 replace z:=J (zz.trans z.out)
 replace t5:=(oo 5 (by decide)).trans t5
 replace t9:=(oo 9 (by decide)).trans t9
 replace t10:=(oo 10 (by decide)).trans t10
 replace t12:=(oo 12 (by decide)).trans t12
 replace t13:=(oo 13 (by decide)).trans t13
 replace t15:=(oo 15 (by decide)).trans t15
 replace t124:=(oo 124 (by decide)).trans t124
 replace t126:=(oo 126 (by decide)).trans t126
 clear dd zz oo
 conv=>arg 4;whnf
 refine wpl_on t124 ?_
 refine wpl_e 128 30 #[.pointer (some ⟨ga,0,none⟩)] (by rw [z.out];decide) (by unfold execOp;go_simp) ?_
 refine (HLA.out _ b0.out).mono ?_
 rintro x w1 ⟨rfl,hb1⟩
 replace b0:=J (b0.out.trans (hb1.mono b0.out.size))
 clear hb1
 refine⟨_,rfl,fun a nx=>?_⟩
 obtain⟨dd,zz,t128,oo⟩:=nx
 replace d:=dd.trans d
 replace z:=J (zz.trans z.out)
 replace t5:=(oo 5 (by decide)).trans t5
 replace t9:=(oo 9 (by decide)).trans t9
 replace t10:=(oo 10 (by decide)).trans t10
 replace t12:=(oo 12 (by decide)).trans t12
 replace t13:=(oo 13 (by decide)).trans t13
 replace t15:=(oo 15 (by decide)).trans t15
 replace t124:=(oo 124 (by decide)).trans t124
 replace t126:=(oo 126 (by decide)).trans t126
 clear dd zz oo t127
 conv=>arg 4;whnf
 refine wpl_on t124 ?_
 refine wpl_v 129 (.bool false) (by rw [z.out];decide) fun a nx=>?_
 obtain⟨dd,zz,t129,oo⟩:=nx
 replace d:=dd.trans d
 replace z:=J (zz.trans z.out)
 replace t5:=(oo 5 (by decide)).trans t5
 replace t9:=(oo 9 (by decide)).trans t9
 replace t10:=(oo 10 (by decide)).trans t10
 replace t12:=(oo 12 (by decide)).trans t12
 replace t13:=(oo 13 (by decide)).trans t13
 replace t15:=(oo 15 (by decide)).trans t15
 replace t124:=(oo 124 (by decide)).trans t124
 clear dd zz oo t126 t128
 conv=>arg 4;whnf
 refine wpl_v 130 (.bool false) (by rw [z.out];decide) fun a nx=>?_
 obtain⟨dd,zz,t130,oo⟩:=nx
 replace d:=dd.trans d
 replace z:=J (zz.trans z.out)
 replace t5:=(oo 5 (by decide)).trans t5
 replace t9:=(oo 9 (by decide)).trans t9
 replace t10:=(oo 10 (by decide)).trans t10
 replace t12:=(oo 12 (by decide)).trans t12
 replace t13:=(oo 13 (by decide)).trans t13
 replace t15:=(oo 15 (by decide)).trans t15
 clear dd zz oo t124 t129
 conv=>arg 4;whnf
 refine wpl_v 131 (.bool false) (by rw [z.out];decide) fun a nx=>?_
 obtain⟨dd,zz,t131,oo⟩:=nx
 replace d:=dd.trans d
 replace z:=J (zz.trans z.out)
 replace t5:=(oo 5 (by decide)).trans t5
 replace t9:=(oo 9 (by decide)).trans t9
 replace t10:=(oo 10 (by decide)).trans t10
 replace t12:=(oo 12 (by decide)).trans t12
 replace t13:=(oo 13 (by decide)).trans t13
 replace t15:=(oo 15 (by decide)).trans t15
 clear dd zz oo t130
 conv=>arg 4;whnf
 refine wpl_on t131 ?_
 refine wpl_v 132 (.pointer (some ⟨gb,0,none⟩)) (by rw [z.out];decide) fun a nx=>?_
 obtain⟨dd,zz,t132,oo⟩:=nx
 replace d:=dd.trans d
 replace z:=J (zz.trans z.out)
 replace t5:=(oo 5 (by decide)).trans t5
 replace t9:=(oo 9 (by decide)).trans t9
 replace t10:=(oo 10 (by decide)).trans t10
 replace t12:=(oo 12 (by decide)).trans t12
 replace t13:=(oo 13 (by decide)).trans t13
 replace t15:=(oo 15 (by decide)).trans t15
 replace t131:=(oo 131 (by decide)).trans t131
 clear dd zz oo
 conv=>arg 4;whnf
 refine wpl_on t131 ?_
 refine wpl_e 133 22 #[.pointer (some ⟨gb,0,none⟩)] (by rw [z.out];decide) (by unfold execOp;go_simp) ?_
 refine (HO.out _ b0.out).mono ?_
 rintro x w1 ⟨oA2,oc2,rfl,hr,hb1⟩
 have hs:=HS.out oA2 oc2 _ (b0.out.trans (hb1.mono b0.out.size)) hr
 replace b0:=J (b0.out.trans (hb1.mono b0.out.size))
 clear hb1 hr
 have hs:=J hs
 refine⟨_,rfl,fun a nx=>?_⟩
 obtain⟨dd,zz,t133,oo⟩:=nx
 replace d:=dd.trans d
 replace z:=J (zz.trans z.out)
 replace t5:=(oo 5 (by decide)).trans t5
 replace t9:=(oo 9 (by decide)).trans t9
 replace t10:=(oo 10 (by decide)).trans t10
 replace t12:=(oo 12 (by decide)).trans t12
 replace t13:=(oo 13 (by decide)).trans t13
 replace t15:=(oo 15 (by decide)).trans t15
 replace t131:=(oo 131 (by decide)).trans t131
 clear dd zz oo t132
 conv=>arg 4;whnf
 refine wpl_on t131 ?_
 refine wpl_v 134 (.slice oA n oc) (by rw [z.out];decide) fun a nx=>?_
 obtain⟨dd,zz,t134,oo⟩:=nx
 replace d:=dd.trans d
 replace z:=J (zz.trans z.out)
 replace t5:=(oo 5 (by decide)).trans t5
 replace t9:=(oo 9 (by decide)).trans t9
 replace t10:=(oo 10 (by decide)).trans t10
 replace t12:=(oo 12 (by decide)).trans t12
 replace t13:=(oo 13 (by decide)).trans t13
 replace t15:=(oo 15 (by decide)).trans t15
 replace t131:=(oo 131 (by decide)).trans t131
 replace t133:=(oo 133 (by decide)).trans t133
 clear dd zz oo
 conv=>arg 4;whnf
 refine wpl_on t131 ?_
 refine wpl_e 135 21 #[.slice oA2 n oc2,.slice oA n oc] (by rw [z.out];decide) (by unfold execOp;go_simp) ?_
 refine hs.out.mono ?_
 rintro x w1 ⟨rfl,hb1⟩
 replace b0:=J (b0.out.trans (hb1.mono b0.out.size))
 clear hb1 hs
 refine⟨_,rfl,fun a nx=>?_⟩
 obtain⟨dd,zz,t135,oo⟩:=nx
 replace d:=dd.trans d
 replace z:=J (zz.trans z.out)
 replace t5:=(oo 5 (by decide)).trans t5
 replace t9:=(oo 9 (by decide)).trans t9
 replace t10:=(oo 10 (by decide)).trans t10
 replace t12:=(oo 12 (by decide)).trans t12
 replace t13:=(oo 13 (by decide)).trans t13
 replace t15:=(oo 15 (by decide)).trans t15
 replace t131:=(oo 131 (by decide)).trans t131
 clear dd zz oo t133 t134
 conv=>arg 4;whnf
 refine wpl_on t131 ?_
 refine wpl_v 136 (.bool false) (by rw [z.out];decide) fun a nx=>?_
 obtain⟨dd,zz,t136,oo⟩:=nx
 replace d:=dd.trans d
 replace z:=J (zz.trans z.out)
 replace t5:=(oo 5 (by decide)).trans t5
 replace t9:=(oo 9 (by decide)).trans t9
 replace t10:=(oo 10 (by decide)).trans t10
 replace t12:=(oo 12 (by decide)).trans t12
 replace t13:=(oo 13 (by decide)).trans t13
 replace t15:=(oo 15 (by decide)).trans t15
 replace t131:=(oo 131 (by decide)).trans t131
 clear dd zz oo t135
 conv=>arg 4;whnf
 refine wpl_v 137 (.bool false) (by rw [z.out];decide) fun a nx=>?_
 obtain⟨dd,zz,t137,oo⟩:=nx
 replace d:=dd.trans d
 replace z:=J (zz.trans z.out)
 replace t5:=(oo 5 (by decide)).trans t5
 replace t9:=(oo 9 (by decide)).trans t9
 replace t10:=(oo 10 (by decide)).trans t10
 replace t12:=(oo 12 (by decide)).trans t12
 replace t13:=(oo 13 (by decide)).trans t13
 replace t15:=(oo 15 (by decide)).trans t15
 clear dd zz oo t131 t136
 conv=>arg 4;whnf
 exact HQ.out a w1 ⟨d,z.out,at_of t5,at_of t9,at_of t10,at_of t12,at_of t13,at_of t15,at_of t137,trivial⟩ b0.out
theorem ez30 (Q:Z) (a:Act) (hfr:Fr 170 a [(5,b5),(9,ga),(10,gb),(12,.slice oA n oc),(13,lb),(15,.slice sA sn sc)])
 (hQ:∀ a',Fr 170 a' [(5,b5),(9,ga),(10,gb),(12,.slice oA n oc),(13,lb),(138,.slice sA sn sc),(139,.int .i64 (sn:Nat)),(140,.int .i64 ((0:Nat):Nat))]->Q .normal a' w):(part [1,1,1,1,1,1,1,1,1,1,1,1,1,1,0,0] (codeOf endsF)).wp prog Q a w:=by
 have HQ:=J hQ
 clear hQ
 obtain⟨d,z0,f5,f9,f10,f12,f13,f15,-⟩:=hfr
 have z:=J z0
 have t5:=of_at f5
 have t9:=of_at f9
 have t10:=of_at f10
 have t12:=of_at f12
 have t13:=of_at f13
 have t15:=of_at f15
 clear z0 f5 f9 f10 f12 f13 f15
 refine wp_region_ops (id:=30) kr ?_
 conv=>arg 4;whnf
 refine wpl_v 138 (.slice sA sn sc) (by rw [z.out];decide) fun a nx=>?_
 obtain⟨dd,zz,t138,oo⟩:=nx
 replace d:=dd.trans d
 replace z:=J (zz.trans z.out)
 replace t5:=(oo 5 (by decide)).trans t5
 replace t9:=(oo 9 (by decide)).trans t9
 replace t10:=(oo 10 (by decide)).trans t10
 replace t12:=(oo 12 (by decide)).trans t12
 replace t13:=(oo 13 (by decide)).trans t13
 clear dd zz oo t15
 conv=>arg 4;whnf
 refine wpl_v 139 (.int .i64 (sn:Nat)) (by rw [z.out];decide) fun a nx=>?_
 obtain⟨dd,zz,t139,oo⟩:=nx
 replace d:=dd.trans d
 replace z:=J (zz.trans z.out)
 replace t5:=(oo 5 (by decide)).trans t5
 replace t9:=(oo 9 (by decide)).trans t9
 replace t10:=(oo 10 (by decide)).trans t10
 replace t12:=(oo 12 (by decide)).trans t12
 replace t13:=(oo 13 (by decide)).trans t13
 replace t138:=(oo 138 (by decide)).trans t138
 clear dd zz oo
 conv=>arg 4;whnf
 refine wpl_v 140 (.int .i64 ((0:Nat):Nat)) (by rw [z.out];decide) fun a nx=>?_
 obtain⟨dd,zz,t140,oo⟩:=nx
 replace d:=dd.trans d
 replace z:=J (zz.trans z.out)
 replace t5:=(oo 5 (by decide)).trans t5
 replace t9:=(oo 9 (by decide)).trans t9
 replace t10:=(oo 10 (by decide)).trans t10
 replace t12:=(oo 12 (by decide)).trans t12
 replace t13:=(oo 13 (by decide)).trans t13
 replace t138:=(oo 138 (by decide)).trans t138
 replace t139:=(oo 139 (by decide)).trans t139
 clear dd zz oo
 conv=>arg 4;whnf
 exact HQ.out a ⟨d,z.out,at_of t5,at_of t9,at_of t10,at_of t12,at_of t13,at_of t138,at_of t139,at_of t140,trivial⟩
theorem ez38 (Q:Z) (a:Act) (hfr:Fr 170 a [(5,b5),(9,ga),(10,gb),(12,.slice oA n oc),(13,lb)]) (hM:∀ W,Below w w W->Calls prog 29 #[.pointer (some ⟨lb,0,none⟩)] W fun x w'=>x=.returned (.agg #[u,v])/\Below W W w')
 (hLa:∀ W,Below w w W->Calls prog 30 #[.pointer (some ⟨ga,0,none⟩)] W fun x w'=>x=.returned (.agg #[u,v])/\Below W W w')
 (M:O->Nat->World->Prop) (hO:∀ W,Below w w W->Calls prog 22 #[.pointer (some ⟨gb,0,none⟩)] W fun x w'=>∃ oA2 oc2,x=.returned (.slice oA2 n oc2)/\M oA2 oc2 w'/\Below W W w')
 (hS:∀ oA2 oc2 W,Below w w W->M oA2 oc2 W->Calls prog 21 #[.slice oA2 n oc2,.slice oA n oc] W fun x w'=>x=.returned (.bool true)/\Below W W w')
 (hQ:∀ a' w',Fr 170 a' [(6,true)]->Below w w w'->Q .normal a' w'):(part [1,1,1,1,1,1,1,1,1,1,1,1,1,1,1,0] (codeOf endsF)).wp prog Q a w:=by
 obtain⟨HM,HLA,HO,HS,HQ⟩:=J5 hM hLa hO hS hQ
 clear hM hLa hO hS hQ
 obtain⟨d,z0,f5,f9,f10,f12,f13,-⟩:=hfr
 have z:=J z0
 have t5:=of_at f5
 have t9:=of_at f9
 have t10:=of_at f10
 have t12:=of_at f12
 have t13:=of_at f13
 clear z0 f5 f9 f10 f12 f13
 have b0:=J (Below.refl w.heap.size w)
 refine wp_region_ops (id:=38) kr ?_
 conv=>arg 4;whnf
 refine wpl_v 159 (.pointer (some ⟨lb,0,none⟩)) (by rw [z.out];decide) fun a nx=>?_
 obtain⟨dd,zz,t159,oo⟩:=nx
 replace d:=dd.trans d
 replace z:=J (zz.trans z.out)
 replace t9:=(oo 9 (by decide)).trans t9
 replace t10:=(oo 10 (by decide)).trans t10
 replace t12:=(oo 12 (by decide)).trans t12
 clear dd zz oo t5 t13
 conv=>arg 4;whnf
 refine wpl_e 160 29 #[.pointer (some ⟨lb,0,none⟩)] (by rw [z.out];decide) (by unfold execOp;go_simp) ?_
 refine (HM.out _ b0.out).mono ?_
 rintro x w1 ⟨rfl,hb1⟩
 replace b0:=J (b0.out.trans (hb1.mono b0.out.size))
 clear hb1
 refine⟨_,rfl,fun a nx=>?_⟩
 obtain⟨dd,zz,t160,oo⟩:=nx
 replace d:=dd.trans d
 replace z:=J (zz.trans z.out)
 replace t9:=(oo 9 (by decide)).trans t9
 replace t10:=(oo 10 (by decide)).trans t10
 replace t12:=(oo 12 (by decide)).trans t12
 clear dd zz oo t159
 conv=>arg 4;whnf
 refine wpl_v 161 (.pointer (some ⟨ga,0,none⟩)) (by rw [z.out];decide) fun a nx=>?_
 obtain⟨dd,zz,t161,oo⟩:=nx
 replace d:=dd.trans d
 replace z:=J (zz.trans z.out)
 replace t10:=(oo 10 (by decide)).trans t10
 replace t12:=(oo 12 (by decide)).trans t12
 replace t160:=(oo 160 (by decide)).trans t160
 clear dd zz oo t9
 conv=>arg 4;whnf
 refine wpl_e 162 30 #[.pointer (some ⟨ga,0,none⟩)] (by rw [z.out];decide) (by unfold execOp;go_simp) ?_
 refine (HLA.out _ b0.out).mono ?_
 rintro x w1 ⟨rfl,hb1⟩
 replace b0:=J (b0.out.trans (hb1.mono b0.out.size))
 clear hb1
 refine⟨_,rfl,fun a nx=>?_⟩
 obtain⟨dd,zz,t162,oo⟩:=nx
 replace d:=dd.trans d
 replace z:=J (zz.trans z.out)
 replace t10:=(oo 10 (by decide)).trans t10
 replace t12:=(oo 12 (by decide)).trans t12
 replace t160:=(oo 160 (by decide)).trans t160
 clear dd zz oo t161
 conv=>arg 4;whnf
 refine wpl_v 163 (.bool true) (by rw [z.out];decide) fun a nx=>?_
 obtain⟨dd,zz,t163,oo⟩:=nx
 replace d:=dd.trans d
 replace z:=J (zz.trans z.out)
 replace t10:=(oo 10 (by decide)).trans t10
 replace t12:=(oo 12 (by decide)).trans t12
 clear dd zz oo t160 t162
 conv=>arg 4;whnf
 refine wpl_v 164 (.bool true) (by rw [z.out];decide) fun a nx=>?_
 obtain⟨dd,zz,t164,oo⟩:=nx
 replace d:=dd.trans d
 replace z:=J (zz.trans z.out)
 replace t10:=(oo 10 (by decide)).trans t10
 replace t12:=(oo 12 (by decide)).trans t12
 clear dd zz oo t163
 conv=>arg 4;whnf
 refine wpl_on t164 ?_
 refine wpl_v 165 (.pointer (some ⟨gb,0,none⟩)) (by rw [z.out];decide) fun a nx=>?_
 obtain⟨dd,zz,t165,oo⟩:=nx
 replace d:=dd.trans d
 replace z:=J (zz.trans z.out)
 replace t12:=(oo 12 (by decide)).trans t12
 replace t164:=(oo 164 (by decide)).trans t164
 clear dd zz oo t10
 conv=>arg 4;whnf
 refine wpl_on t164 ?_
 refine wpl_e 166 22 #[.pointer (some ⟨gb,0,none⟩)] (by rw [z.out];decide) (by unfold execOp;go_simp) ?_
 refine (HO.out _ b0.out).mono ?_
 rintro x w1 ⟨oA2,oc2,rfl,hr,hb1⟩
 have hs:=HS.out oA2 oc2 _ (b0.out.trans (hb1.mono b0.out.size)) hr
 replace b0:=J (b0.out.trans (hb1.mono b0.out.size))
 clear hb1 hr
 have hs:=J hs
 refine⟨_,rfl,fun a nx=>?_⟩
 obtain⟨dd,zz,t166,oo⟩:=nx
 replace d:=dd.trans d
 replace z:=J (zz.trans z.out)
 replace t12:=(oo 12 (by decide)).trans t12
 replace t164:=(oo 164 (by decide)).trans t164
 clear dd zz oo t165
 conv=>arg 4;whnf
 refine wpl_on t164 ?_
 refine wpl_v 167 (.slice oA n oc) (by rw [z.out];decide) fun a nx=>?_
 obtain⟨dd,zz,t167,oo⟩:=nx
 replace d:=dd.trans d
 replace z:=J (zz.trans z.out)
 replace t164:=(oo 164 (by decide)).trans t164
 replace t166:=(oo 166 (by decide)).trans t166
 clear dd zz oo t12
 conv=>arg 4;whnf
 refine wpl_on t164 ?_
 refine wpl_e 168 21 #[.slice oA2 n oc2,.slice oA n oc] (by rw [z.out];decide) (by unfold execOp;go_simp) ?_
 refine hs.out.mono ?_
 rintro x w1 ⟨rfl,hb1⟩
 replace b0:=J (b0.out.trans (hb1.mono b0.out.size))
 clear hb1 hs
 refine⟨_,rfl,fun a nx=>?_⟩
 obtain⟨dd,zz,t168,oo⟩:=nx
 replace d:=dd.trans d
 replace z:=J (zz.trans z.out)
 replace t164:=(oo 164 (by decide)).trans t164
 clear dd zz oo t166 t167
 conv=>arg 4;whnf
 refine wpl_v 169 (.bool true) (by rw [z.out];decide) fun a nx=>?_
 obtain⟨dd,zz,t169,oo⟩:=nx
 replace d:=dd.trans d
 replace z:=J (zz.trans z.out)
 clear dd zz oo t164 t168
 conv=>arg 4;whnf
 refine wpl_v 6 (.bool true) (by rw [z.out];decide) fun a nx=>?_
 obtain⟨dd,zz,t6,oo⟩:=nx
 replace d:=dd.trans d
 replace z:=J (zz.trans z.out)
 clear dd zz oo t169
 conv=>arg 4;whnf
 exact HQ.out a w1 ⟨d,z.out,at_of t6,trivial⟩ b0.out
def EndsR (W:World) (e:Ending) (w':World):Prop:=e=.returned (.bool true)/\Below W W w'
theorem ez5 {W:World} (Q:Z) (a:Act) (h:a.defers=[]/\a.tmps.size=170) (hl:Below W W w) (hQ:∀ a' w',bodyPost prog endsF (EndsR W) .ret a' w'->Q .ret a' w'):(part [1,1,1,0,1,0] (codeOf endsF)).wp prog Q a w:=by
 exact EY30
theorem ez10 {W:World} (Q:Z) (a:Act) (h:a.defers=[]/\a.tmps.size=170) (hl:Below W W w) (hQ:∀ a' w',bodyPost prog endsF (EndsR W) .ret a' w'->Q .ret a' w'):(part [1,1,1,1,1,1,1,0,1,0] (codeOf endsF)).wp prog Q a w:=by
 exact EY30
end
end Go.Proofs.Ytaipgdhdfpemcaa
