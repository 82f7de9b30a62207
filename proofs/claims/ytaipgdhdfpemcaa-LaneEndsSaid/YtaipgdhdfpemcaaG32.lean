/- THE WALKS OF THE LANE, part 32. -/
import Derived.Test.YtaipgdhdfpemcaaG21
namespace Go.Proofs.Ytaipgdhdfpemcaa
set_option linter.all false
open Go.RowKit Go.Proofs.Try
set_option maxRecDepth 100000
set_option maxHeartbeats 4000000
@[reducible] noncomputable def doFF:Func:=Try.f43
def AlS (w:World) (z:Array Value) (t:TypeId) (R:World->Prop):List Value->World->Prop
 | [],W=>W=w
 | [u],W=>u=.pointer (some ⟨w.heap.size,0,none⟩)/\W=w.alloc (.cells z t)
 | [u,_],W=>u=.pointer (some ⟨w.heap.size,0,none⟩)/\R W/\Below w w W
 | _,_=>False
section
variable {z:Array Value} {name:ByteArray} {client ep fence hE hS kind n seq settled site size us:Int} {f:Int->Option (Int×Int×Int)} {vs:List Value} {b3 b4 b5 g hc hk lc ln m1 m2 nn pc pn:Nat} {A lA pA:O} {t:TypeId} {W w:World} {R:World->Prop}
theorem AlS.low (h:AlS w z t R vs W):Below w w W:=by
 rcases vs with _|⟨u,_|⟨v,_|⟨x,l⟩⟩⟩
 ·obtain rfl:=h;exact Below.refl _ _
 ·obtain⟨_,rfl⟩:=h;exact (Below.refl _ _).alloc (Nat.le_refl _) _
 ·exact h.2.2
 ·exact h.elim
theorem do4 (Q:Z) (a:Act) (hfr:Fr 129 a [(0,g),(3,b3),(4,b4),(5,b5)]) (hg:Blk w g 98 (ledC (.map (some m1)) us (.map (some m2)) hE hS pA pn pc lA ln lc fence settled 65536 64)) (hb5:Blk w b5 45 (oC n ep kind site client seq name size A hk hc)) (hl:LastF w m2 nn f) (hcl:I64 client) (hQ:∀ a' W k1 k2 k3 k4 k5 k6 k7 k8,Fr 129 a' [(0,g),(3,b3),(4,b4),(5,b5),(6,(w:Nat)),(7,.bool (f client).isSome)]->Blk W w 45 (oC ((f client).getD (0,0,0)).1 ((f client).getD (0,0,0)).2.1 k1 k2 k3 ((f client).getD (0,0,0)).2.2 k4 k5 k6 k7 k8)->Below w w W->Q .normal a' W) :
 (part [1,1,1,0,0] (codeOf doFF)).wp prog Q a w:=by
 obtain⟨k1,k2,k3,k4,k5,k6,k7,k8,hlook⟩:=(hl.keep (w':=w.drew) rfl).look_all hcl
 have hmlt:m2<w.drew.heap.size:=hl.lt
 clear hl hcl
 have hg':Blk w.drew g 98 (ledC (.map (some m1)) us (.map (some m2)) hE hS pA pn pc lA ln lc fence settled 65536 64):=hg
 have hb':Blk w.drew b5 45 (oC n ep kind site client seq name size A hk hc):=hb5
 have HQ:=J (show ∀ a' W k1 k2 k3 k4 k5 k6 k7 k8,Fr 129 a' [(0,g),(3,b3),(4,b4),(5,b5),(6,(w.drew.heap.size:Nat)),(7,.bool (f client).isSome)]->Blk W w.drew.heap.size 45 (oC ((f client).getD (0,0,0)).1 ((f client).getD (0,0,0)).2.1 k1 k2 k3 ((f client).getD (0,0,0)).2.2 k4 k5 k6 k7 k8)->Below w.drew.heap.size w.drew W->Q .normal a' W from fun a' W k1 k2 k3 k4 k5 k6 k7 k8 hf h1 h3=>hQ a' W k1 k2 k3 k4 k5 k6 k7 k8 hf h1 ⟨h3.os,h3.tape,h3.output,h3.size,h3.block⟩)
 clear hg hb5 hQ
 obtain⟨w0,hw0⟩:∃ w0,w0=w.drew:=⟨_,rfl⟩
 rw [<-hw0] at hg' hb' HQ hlook hmlt
 obtain⟨HG,HO,HK,HM⟩:=J4 hg' hb' hlook hmlt
 clear hg' hb' hlook hmlt
 refine gg hfr fun t=>?_
 generalize w=w1 at hw0 ⊢
 refine wp_region_chain kr [11,12] (fun i=>match i with|0=>g|1=>g|2=>g|3=>.pointer (some ⟨g,2,none⟩)|4=>.map (some m2)|5=>.pointer (some ⟨b5,4,none⟩)|6=>client|7=>.tuple #[.agg #[.int .i64 ((f client).getD (0,0,0)).1,.int .i64 ((f client).getD (0,0,0)).2.1,.int .i64 k1,.int .i64 k2,.int .i64 k3,.int .i64 ((f client).getD (0,0,0)).2.2,.string k4,.int .i64 k5,.slice k6 k7 k8],.bool (f client).isSome]|8=>.tuple #[.agg #[.int .i64 ((f client).getD (0,0,0)).1,.int .i64 ((f client).getD (0,0,0)).2.1,.int .i64 k1,.int .i64 k2,.int .i64 k3,.int .i64 ((f client).getD (0,0,0)).2.2,.string k4,.int .i64 k5,.slice k6 k7 k8],.bool (f client).isSome]|9=>.agg #[.int .i64 ((f client).getD (0,0,0)).1,.int .i64 ((f client).getD (0,0,0)).2.1,.int .i64 k1,.int .i64 k2,.int .i64 k3,.int .i64 ((f client).getD (0,0,0)).2.2,.string k4,.int .i64 k5,.slice k6 k7 k8]|10=>.bool (f client).isSome|13=>.bool (f client).isSome|_=>undef) (AlS w0 (#[.int .i64 0,.int .i64 0,.int .i64 0,.int .i64 0,.int .i64 0,.int .i64 0,.string ⟨#[]⟩,.int .i64 0,.slice none 0 0]) 45 (fun W=>Blk W w0 45 (oC ((f client).getD (0,0,0)).1 ((f client).getD (0,0,0)).2.1 k1 k2 k3 ((f client).getD (0,0,0)).2.2 k4 k5 k6 k7 k8))) (fun _ _=>false) kr kr kr kr ?hS ?hfree ?hlink ?hend
 case hS=>exact hw0.symm
 case hfree=>
  intro i o F U vs W ho hni hS hlen hlim hat hoff hd
  have e0:=oo 0 g
  have t0:=act_tmp e0
  have e5:=oo 5 b5
  have t5:=act_tmp e5
  obtain⟨qa,qb⟩:=J2 hat hd
  clear hat hoff hd
  match i with
  | 0|5=>
   exact Y66
  | 1=>
   cases ho
   have t34:=act_tmp (fev qa qb 0 34)
   exact vl ⟨rfl,rfl⟩
  | 2=>
   cases ho
   have t35:=act_tmp (fev qa qb 1 35)
   exact vl ⟨rfl,rfl⟩
  | 3=>
   cases ho
   have t36:=act_tmp (fev qa qb 2 36)
   exact vl ⟨rfl,rfl⟩
  | 4=>
   cases ho
   have t37:=act_tmp (fev qa qb 3 37)
   have hsm:=hS.low
   have hg:=HG.out.below hsm HG.out.lt
   have d0:=hg.c1 2
   exact vl ⟨rfl,rfl⟩
  | 6=>
   cases ho
   have t39:=act_tmp (fev qa qb 5 39)
   have hsm:=hS.low
   have hb5:=HO.out.below hsm HO.out.lt
   have d0:=hb5.c1 4
   exact vl ⟨rfl,rfl⟩
  | 7=>
   cases ho
   have e38:=fev qa qb 4 38
   have t38:=act_tmp e38
   have e40:=fev qa qb 6 40
   have t40:=act_tmp e40
   exact vl ⟨rfl,rfl⟩ (h:=by unfold execOp;have hlk:=HK.out W (hS.low.block _ HM.out);simp [e38,e40,hlk,Result.andThen])
  | 8=>
   cases ho
   have t41:=act_tmp (fev qa qb 7 41)
   exact vl ⟨rfl,rfl⟩
  | 9|10=>
   cases ho
   have t33:=act_tmp (fev qa qb 8 33)
   exact vl ⟨rfl,rfl⟩
  | 11|12=>
   exact Y81
  | 13=>
   cases ho
   have t43:=act_tmp (fev qa qb 10 43)
   exact vl ⟨rfl,rfl⟩
  | i+14=>exact absurd ho (by simp)
 case hlink=>
  intro k i o F U vs W hk ho hS hvl hat hoff hd
  have:=ot 0 g
  have:=ot 5 b5
  obtain⟨qa,qb⟩:=J2 hat hd
  clear hat hoff hd
  match k with
  | 0=>
   cases hk;cases ho;obtain rfl:=List.eq_nil_of_length_eq_zero hvl;obtain rfl:=hS
   exact wp_value' (.pointer (some ⟨W.heap.size,0,none⟩)) (W.alloc (.cells (#[.int .i64 0,.int .i64 0,.int .i64 0,.int .i64 0,.int .i64 0,.int .i64 0,.string ⟨#[]⟩,.int .i64 0,.slice none 0 0]) 45)) (by unfold execOp;go_simp) ⟨_,rfl,rfl,rfl⟩
  | 1=>
   cases hk;cases ho;obtain⟨u0,rfl⟩:=ln1 hvl;have e6:=cev qa qb 11 6;have t6:=act_tmp e6;have e42:=fev qa qb 9 42;have t42:=act_tmp e42;obtain⟨rfl,rfl⟩:=hS;have hn:=Blk.new w0 45 (#[.int .i64 0,.int .i64 0,.int .i64 0,.int .i64 0,.int .i64 0,.int .i64 0,.string ⟨#[]⟩,.int .i64 0,.slice none 0 0]);obtain⟨c0,c1,c2,c3,c4,c5,c6,c7,c8⟩:=hn.cs 0 9;have f0:=hn.frozen;have hl:Below w0 w0 (w0.alloc (.cells (#[.int .i64 0,.int .i64 0,.int .i64 0,.int .i64 0,.int .i64 0,.int .i64 0,.string ⟨#[]⟩,.int .i64 0,.slice none 0 0]) 45)):=(Below.refl _ _).alloc (Nat.le_refl _) _
   exact wp_skip' (w0.alloc (.cells (oC ((f client).getD (0,0,0)).1 ((f client).getD (0,0,0)).2.1 k1 k2 k3 ((f client).getD (0,0,0)).2.2 k4 k5 k6 k7 k8) 45)) (by unfold execOp;go_simp) ⟨_,rfl,rfl,Blk.new w0 45 (oC ((f client).getD (0,0,0)).1 ((f client).getD (0,0,0)).2.1 k1 k2 k3 ((f client).getD (0,0,0)).2.2 k4 k5 k6 k7 k8),(Below.refl _ _).alloc (Nat.le_refl _) _⟩
  | k+2=>exact absurd hk (by simp)
 case hend=>
  intro U vs W hS hvl hfr hch
  obtain⟨x0,x1,rfl⟩:=ln2 hvl
  obtain⟨r1,r2,r3⟩:=hS
  have q0:U 11=.pointer (some ⟨w0.heap.size,0,none⟩):=by
   have:=hch 0 11 rfl
   simp at this
   rw [<-this,r1]
  have q1:=hfr 13 (by decide) (by decide)
  have HR:=J (And.intro r2 r3)
  obtain⟨H0,H1⟩:=J2 q0 q1
  clear hfr hch r1 r2 r3 q0 q1
  simp [putU,dstAt,Act.put]
  exact HQ.out _ _ k1 k2 k3 k4 k5 k6 k7 k8 ⟨rfl,rfl,rfl,rfl,rfl,rfl,H0.out,H1.out,trivial⟩ HR.out.1 HR.out.2
theorem do9 {f:ByteArray->Option Int} (Q:Z) (a:Act) (hfr:Fr 129 a [(0,g),(3,b3),(4,b4),(5,b5)]) (hg:Blk w g 98 (ledC (.map (some m1)) us (.map (some m2)) hE hS pA pn pc lA ln lc fence settled 65536 64)) (hb5:Blk w b5 45 (oC n ep kind site client seq name size A hk hc)) (hl:LiveF w m1 nn f) (hcl:name.size<=maxLen) (hQ:∀ a' W k1 k2 k3,Fr 129 a' [(0,g),(3,b3),(4,b4),(5,b5),(8,(w:Nat)),(9,.bool (f name).isSome)]->Blk W w 43 (#[.int .i64 ((f name).getD 0),.slice k1 k2 k3])->Below w w W->Q .normal a' W) :
 (part [1,1,1,1,0] (codeOf doFF)).wp prog Q a w:=by
 obtain⟨k1,k2,k3,hlook⟩:=(hl.keep (w':=w.drew) rfl).look_all hcl
 have hmlt:m1<w.drew.heap.size:=hl.lt
 clear hl hcl
 have hg':Blk w.drew g 98 (ledC (.map (some m1)) us (.map (some m2)) hE hS pA pn pc lA ln lc fence settled 65536 64):=hg
 have hb':Blk w.drew b5 45 (oC n ep kind site client seq name size A hk hc):=hb5
 have HQ:=J (show ∀ a' W k1 k2 k3,Fr 129 a' [(0,g),(3,b3),(4,b4),(5,b5),(8,(w.drew.heap.size:Nat)),(9,.bool (f name).isSome)]->Blk W w.drew.heap.size 43 (#[.int .i64 ((f name).getD 0),.slice k1 k2 k3])->Below w.drew.heap.size w.drew W->Q .normal a' W from fun a' W k1 k2 k3 hf h1 h3=>hQ a' W k1 k2 k3 hf h1 ⟨h3.os,h3.tape,h3.output,h3.size,h3.block⟩)
 clear hg hb5 hQ
 obtain⟨w0,hw0⟩:∃ w0,w0=w.drew:=⟨_,rfl⟩
 rw [<-hw0] at hg' hb' HQ hlook hmlt
 obtain⟨HG,HO,HK,HM⟩:=J4 hg' hb' hlook hmlt
 clear hg' hb' hlook hmlt
 refine gg hfr fun t=>?_
 generalize w=w1 at hw0 ⊢
 refine wp_region_chain kr [11,12] (fun i=>match i with|0=>g|1=>g|2=>g|3=>g|4=>.map (some m1)|5=>.pointer (some ⟨b5,6,none⟩)|6=>.string name|7=>.tuple #[.agg #[.int .i64 ((f name).getD 0),.slice k1 k2 k3],.bool (f name).isSome]|8=>.tuple #[.agg #[.int .i64 ((f name).getD 0),.slice k1 k2 k3],.bool (f name).isSome]|9=>.agg #[.int .i64 ((f name).getD 0),.slice k1 k2 k3]|10=>.bool (f name).isSome|13=>.bool (f name).isSome|_=>undef) (AlS w0 (#[.int .i64 0,.slice none 0 0]) 43 (fun W=>Blk W w0 43 (#[.int .i64 ((f name).getD 0),.slice k1 k2 k3]))) (fun _ _=>false) kr kr kr kr ?hS ?hfree ?hlink ?hend
 case hS=>exact hw0.symm
 case hfree=>
  intro i o F U vs W ho hni hS hlen hlim hat hoff hd
  have e0:=oo 0 g
  have t0:=act_tmp e0
  have e5:=oo 5 b5
  have t5:=act_tmp e5
  obtain⟨qa,qb⟩:=J2 hat hd
  clear hat hoff hd
  match i with
  | 0|5=>
   exact Y66
  | 1=>
   cases ho
   have t62:=act_tmp (fev qa qb 0 62)
   exact vl ⟨rfl,rfl⟩
  | 2=>
   cases ho
   have t63:=act_tmp (fev qa qb 1 63)
   exact vl ⟨rfl,rfl⟩
  | 3=>
   cases ho
   have t64:=act_tmp (fev qa qb 2 64)
   exact vl ⟨rfl,rfl⟩
  | 4=>
   cases ho
   have t65:=act_tmp (fev qa qb 3 65)
   have hsm:=hS.low
   have hg:=HG.out.below hsm HG.out.lt
   have d0:=hg.c1 0
   exact vl ⟨rfl,rfl⟩
  | 6=>
   cases ho
   have t67:=act_tmp (fev qa qb 5 67)
   have hsm:=hS.low
   have hb5:=HO.out.below hsm HO.out.lt
   have d0:=hb5.c1 6
   exact vl ⟨rfl,rfl⟩
  | 7=>
   cases ho
   have e66:=fev qa qb 4 66
   have t66:=act_tmp e66
   have e68:=fev qa qb 6 68
   have t68:=act_tmp e68
   exact vl ⟨rfl,rfl⟩ (h:=by unfold execOp;have hlk:=HK.out W (hS.low.block _ HM.out);simp [e66,e68,hlk,Result.andThen])
  | 8=>
   cases ho
   have t69:=act_tmp (fev qa qb 7 69)
   exact vl ⟨rfl,rfl⟩
  | 9|10=>
   cases ho
   have t61:=act_tmp (fev qa qb 8 61)
   exact vl ⟨rfl,rfl⟩
  | 11|12=>
   exact Y81
  | 13=>
   cases ho
   have t71:=act_tmp (fev qa qb 10 71)
   exact vl ⟨rfl,rfl⟩
  | i+14=>exact absurd ho (by simp)
 case hlink=>
  intro k i o F U vs W hk ho hS hvl hat hoff hd
  have:=ot 0 g
  have:=ot 5 b5
  obtain⟨qa,qb⟩:=J2 hat hd
  clear hat hoff hd
  match k with
  | 0=>
   cases hk;cases ho;obtain rfl:=List.eq_nil_of_length_eq_zero hvl;obtain rfl:=hS
   exact wp_value' (.pointer (some ⟨W.heap.size,0,none⟩)) (W.alloc (.cells (#[.int .i64 0,.slice none 0 0]) 43)) (by unfold execOp;go_simp) ⟨_,rfl,rfl,rfl⟩
  | 1=>
   cases hk;cases ho;obtain⟨u0,rfl⟩:=ln1 hvl;have e8:=cev qa qb 11 8;have t8:=act_tmp e8;have e70:=fev qa qb 9 70;have t70:=act_tmp e70;obtain⟨rfl,rfl⟩:=hS;have hn:=Blk.new w0 43 (#[.int .i64 0,.slice none 0 0]);obtain⟨c0,c1⟩:=hn.cs 0 2;have f0:=hn.frozen;have hl:Below w0 w0 (w0.alloc (.cells (#[.int .i64 0,.slice none 0 0]) 43)):=(Below.refl _ _).alloc (Nat.le_refl _) _
   exact wp_skip' (w0.alloc (.cells (#[.int .i64 ((f name).getD 0),.slice k1 k2 k3]) 43)) (by unfold execOp;go_simp) ⟨_,rfl,rfl,Blk.new w0 43 (#[.int .i64 ((f name).getD 0),.slice k1 k2 k3]),(Below.refl _ _).alloc (Nat.le_refl _) _⟩
  | k+2=>exact absurd hk (by simp)
 case hend=>
  intro U vs W hS hvl hfr hch
  obtain⟨x0,x1,rfl⟩:=ln2 hvl
  obtain⟨r1,r2,r3⟩:=hS
  have q0:U 11=.pointer (some ⟨w0.heap.size,0,none⟩):=by
   have:=hch 0 11 rfl
   simp at this
   rw [<-this,r1]
  have q1:=hfr 13 (by decide) (by decide)
  have HR:=J (And.intro r2 r3)
  obtain⟨H0,H1⟩:=J2 q0 q1
  clear hfr hch r1 r2 r3 q0 q1
  simp [putU,dstAt,Act.put]
  exact HQ.out _ _ k1 k2 k3 ⟨rfl,rfl,rfl,rfl,rfl,rfl,H0.out,H1.out,trivial⟩ HR.out.1 HR.out.2
end
@[reducible] noncomputable def markLF:Func:=Try.f46
@[reducible] noncomputable def shipLF:Func:=Try.f44
def OneS (w W':World):List Value->World->Prop
 | [],W=>W=w
 | [_],W=>W=W'
 | _,_=>False
section
variable {E N fence hE hS settled us:Int} {vs:List Value} {b4 b5 g lc ln m1 m2 pc pn:Nat} {lA pA:O} {W W' w:World}
theorem OneS.nil_ (h:OneS w W' vs W) (hl:vs.length<=0):W=w:=by
 exact Y136
theorem mark6 (Q:Z) (a:Act) (hfr:Fr 51 a [(0,g),(4,b4),(5,b5)]) (hg:Blk w g 98 (ledC (.map (some m1)) us (.map (some m2)) hE hS pA pn pc lA ln lc fence settled 65536 64)) (hb5:Blk w b5 26 #[N,E]) (hQ:∀ a',Fr 51 a' [(0,g),(4,b4),(5,b5)]->Q .normal a' (w.drew.setCell ⟨g,8,none⟩ (.int .i64 (max settled N)))) :
 (part [1,1,1,0] (codeOf markLF)).wp prog Q a w:=by
 have hg':Blk w.drew g 98 (ledC (.map (some m1)) us (.map (some m2)) hE hS pA pn pc lA ln lc fence settled 65536 64):=hg
 have hb':Blk w.drew b5 26 #[N,E]:=hb5
 have HQ:=J hQ
 clear hg hb5 hQ
 obtain⟨w0,hw0⟩:∃ w0,w0=w.drew:=⟨_,rfl⟩
 rw [<-hw0] at hg' hb' HQ
 obtain⟨HG,HO⟩:=J2 hg' hb'
 clear hg' hb'
 refine gg hfr fun t=>?_
 generalize w=w1 at hw0 ⊢
 have HW0:=J hw0
 clear hw0
 refine wp_region_chain kr [10] (fun i=>match i with|0=>g|1=>g|2=>g|3=>.pointer (some ⟨g,8,none⟩)|4=>settled|5=>b5|6=>N|7=>.int .i64 (max settled N)|8=>g|9=>.pointer (some ⟨g,8,none⟩)|_=>undef) (OneS w0 (w0.setCell ⟨g,8,none⟩ (.int .i64 (max settled N)))) (fun _ _=>true) kr kr kr kr ?hS ?hfree ?hlink ?hend
 case hS=>exact HW0.out.symm
 case hfree=>
  intro i o F U vs W ho hni hS hlen hlim hat hoff hd
  have e0:=oo 0 g
  have t0:=act_tmp e0
  have e5:=oo 5 b5
  have t5:=act_tmp e5
  obtain⟨qa,qb⟩:=J2 hat hd
  clear hat hoff hd
  match i with
  | 0|1|5=>
   exact Y66
  | 2=>
   cases ho
   have t40:=act_tmp (fev qa qb 1 40)
   exact vl ⟨rfl,rfl⟩
  | 3=>
   cases ho
   have t41:=act_tmp (fev qa qb 2 41)
   exact vl ⟨rfl,rfl⟩
  | 4=>
   cases ho
   have t42:=act_tmp (fev qa qb 3 42)
   exact Y137
  | 6=>
   cases ho
   have t44:=act_tmp (fev qa qb 5 44)
   exact Y138
  | 7=>
   cases ho
   have t43:=act_tmp (fev qa qb 4 43)
   have t45:=act_tmp (fev qa qb 6 45)
   exact Y106
  | 8=>
   cases ho
   have t39:=act_tmp (fev qa qb 0 39)
   exact vl ⟨rfl,rfl⟩
  | 9=>
   cases ho
   have t47:=act_tmp (fev qa qb 8 47)
   exact vl ⟨rfl,rfl⟩
  | 10=>
   exact Y81
  | i+11=>exact absurd ho (by simp)
 case hlink=>
  intro k i o F U vs W hk ho hS hvl hat hoff hd
  have:=ot 0 g
  have:=ot 5 b5
  obtain⟨qa,qb⟩:=J2 hat hd
  clear hat hoff hd
  match k with
  | 0=>
   cases hk;cases ho;obtain rfl:=List.eq_nil_of_length_eq_zero hvl;have e48:=fev qa qb 9 48;have t48:=act_tmp e48;have e46:=fev qa qb 7 46;have t46:=act_tmp e46;obtain rfl:=hS;have d8:=HG.out.c1 8;have f8:=HG.out.frozen 8
   exact Y120
  | k+1=>exact absurd hk (by simp)
 case hend=>
  exact Y95
theorem ship22 (Q:Z) (a:Act) (hfr:Fr 147 a [(0,g),(4,b4),(5,b5)]) (hg:Blk w g 98 (ledC (.map (some m1)) us (.map (some m2)) hE hS pA pn pc lA ln lc fence settled 65536 64)) (hb5:Blk w b5 26 #[N,E]) (hQ:∀ a',Fr 147 a' [(0,g),(4,b4),(5,b5)]->Q .normal a' (w.drew.setCell ⟨g,8,none⟩ (.int .i64 (max settled N)))) :
 (part [1,1,1,1,1,1,1,1,1,0] (codeOf shipLF)).wp prog Q a w:=by
 have hg':Blk w.drew g 98 (ledC (.map (some m1)) us (.map (some m2)) hE hS pA pn pc lA ln lc fence settled 65536 64):=hg
 have hb':Blk w.drew b5 26 #[N,E]:=hb5
 have HQ:=J hQ
 clear hg hb5 hQ
 obtain⟨w0,hw0⟩:∃ w0,w0=w.drew:=⟨_,rfl⟩
 rw [<-hw0] at hg' hb' HQ
 obtain⟨HG,HO⟩:=J2 hg' hb'
 clear hg' hb'
 refine gg hfr fun t=>?_
 generalize w=w1 at hw0 ⊢
 have HW0:=J hw0
 clear hw0
 refine wp_region_chain kr [10] (fun i=>match i with|0=>g|1=>g|2=>g|3=>.pointer (some ⟨g,8,none⟩)|4=>settled|5=>b5|6=>N|7=>.int .i64 (max settled N)|8=>g|9=>.pointer (some ⟨g,8,none⟩)|_=>undef) (OneS w0 (w0.setCell ⟨g,8,none⟩ (.int .i64 (max settled N)))) (fun _ _=>true) kr kr kr kr ?hS ?hfree ?hlink ?hend
 case hS=>exact HW0.out.symm
 case hfree=>
  intro i o F U vs W ho hni hS hlen hlim hat hoff hd
  have e0:=oo 0 g
  have t0:=act_tmp e0
  have e5:=oo 5 b5
  have t5:=act_tmp e5
  obtain⟨qa,qb⟩:=J2 hat hd
  clear hat hoff hd
  match i with
  | 0|1|5=>
   exact Y66
  | 2=>
   cases ho
   have t136:=act_tmp (fev qa qb 1 136)
   exact vl ⟨rfl,rfl⟩
  | 3=>
   cases ho
   have t137:=act_tmp (fev qa qb 2 137)
   exact vl ⟨rfl,rfl⟩
  | 4=>
   cases ho
   have t138:=act_tmp (fev qa qb 3 138)
   exact Y137
  | 6=>
   cases ho
   have t140:=act_tmp (fev qa qb 5 140)
   exact Y138
  | 7=>
   cases ho
   have t139:=act_tmp (fev qa qb 4 139)
   have t141:=act_tmp (fev qa qb 6 141)
   exact Y106
  | 8=>
   cases ho
   have t135:=act_tmp (fev qa qb 0 135)
   exact vl ⟨rfl,rfl⟩
  | 9=>
   cases ho
   have t143:=act_tmp (fev qa qb 8 143)
   exact vl ⟨rfl,rfl⟩
  | 10=>
   exact Y81
  | i+11=>exact absurd ho (by simp)
 case hlink=>
  intro k i o F U vs W hk ho hS hvl hat hoff hd
  have:=ot 0 g
  have:=ot 5 b5
  obtain⟨qa,qb⟩:=J2 hat hd
  clear hat hoff hd
  match k with
  | 0=>
   cases hk;cases ho;obtain rfl:=List.eq_nil_of_length_eq_zero hvl;have e144:=fev qa qb 9 144;have t144:=act_tmp e144;have e142:=fev qa qb 7 142;have t142:=act_tmp e142;obtain rfl:=hS;have d8:=HG.out.c1 8;have f8:=HG.out.frozen 8
   exact Y120
  | k+1=>exact absurd hk (by simp)
 case hend=>
  exact Y95
end
section
variable {E N fence:Int} {os:List OpC} {B b4 b5 g k:Nat} {Y:Nat->Prop} {v0:Value} {w w1 w2 wb:World}
theorem mark_tailr (G:Ending->World->Prop) (a:Act) (hfr:Fr 51 a [(0,v0),(4,b4),(5,b5)]) (h8:Blk w2 b4 50 #[.int .i64 0,.int .i64 0,.int .i64 0]) (hs:Blk w2 b5 26 #[N,E]) (hG:∀ W,Kept (fun q=>q≠b4) w2 W->Below b4 w2 W->G (.returned (doneV 0 N E)) W) :
 (part ([1,1,1]++[1]) (codeOf markLF)).wp prog (bodyPost prog markLF G) a w2:=by
 exact Y72
theorem mark_tail (hY:∀ b,Y b->B<=b/\b<w) (hB:B<=w) (hb1:Below w w wb) (hz1:w.heap.size+2<=wb) (h:Acted B g Y k os fence wb w1) (h8:Blk w1 (w.heap.size+1) 50 #[.int .i64 0,.int .i64 0,.int .i64 0]) (hs:Blk w1 b5 26 #[N,E]) (h5:¬ New Y wb w1 b5) (a:Act) (hfr:Fr 51 a [(0,g),(4,(w.heap.size+1:Nat)),(5,b5)]) :
 (part [1,1,1] (codeOf markLF)).wp prog (bodyPost prog markLF fun x w'=>(∃ e n ep,x=.returned (doneV e n ep))/\Acted B g Y k os fence w w') a w1:=by
 have hl:=h.1
 obtain⟨m1,m2,pA,pn,pc,lA,ln,lc,settled,hgb,hos,hlive,hlast⟩:=hl.open_
 refine wp_two (x:=part ([1,1,1]++[0]) (codeOf markLF)) (y:=part ([1,1,1]++[1]) (codeOf markLF)) kr ?_
 refine mark6 _ a hfr hgb hs fun a2 hf2=>?_
 have hd:Below w1 w1 w1.drew:=⟨rfl,rfl,rfl,Nat.le_refl _,fun _ _=>rfl⟩
 have s1:=hb1.size
 have s2:=h.2.1.1
 have hl':LedIs w1.drew B g (New Y wb w1) k os fence:=hl.below hd
 have ha2:=hl'.settled_ (max settled N) (by show B<=w1;omega)
 have hw1:Acted B g Y k os fence wb w1.drew:=⟨(hl.below hd).mono (fun b _ hb=>hb) (fun b hb=>hl.1 b hb),h.2.1.below hd,h.2.2.trans (hd.mono (by omega))⟩
 have ha:=Acted.trans (fun b hb=>⟨(hY b hb).1,by have:=(hY b hb).2;omega⟩) hw1 ha2 (by omega)
 have hgne:w.heap.size+1≠g:=fun e=>by
  have:=hl.gY
  rw [<-e] at this
  rcases this with hy|hy
  ·have:=(hY _ hy).2;omega
  ·omega
 have h5ne:b5≠g:=fun e=>h5 (e▸hl.gY)
 show (part ([1,1,1]++[1]) (codeOf markLF)).wp prog _ a2 _
 refine mark_tailr _ a2 hf2 (h8.far (p:=⟨g,8,none⟩) hgne _) (hs.far (p:=⟨g,8,none⟩) h5ne _) fun W hk hlw=>?_
 exact⟨⟨_,_,_,rfl⟩,Acted.boxed hY hB hb1 ha ⟨by omega,by omega⟩ hk hlw⟩
theorem ship_tailr (G:Ending->World->Prop) (a:Act) (hfr:Fr 147 a [(0,v0),(4,b4),(5,b5)]) (h8:Blk w2 b4 50 #[.int .i64 0,.int .i64 0,.int .i64 0]) (hs:Blk w2 b5 26 #[N,E]) (hG:∀ W,Kept (fun q=>q≠b4) w2 W->Below b4 w2 W->G (.returned (doneV 0 N E)) W) :
 (part ([1,1,1,1,1,1,1,1,1]++[1]) (codeOf shipLF)).wp prog (bodyPost prog shipLF G) a w2:=by
 exact Y72
theorem mark_any (kind epoch site:Int) (o:OpC) (hA:O) (hn hc:Nat) (after since:Int) (qA:O) (qn qc:Nat) (tag:Int) (h:LedIs w B g Y k os fence) (hB:B<=w) (haf:0<=after/\after<=4294967296) :
 Calls prog 46 #[.pointer (some ⟨g,0,none⟩),.agg (cmdC kind epoch site o hA hn hc after since qA qn qc tag)] w fun x w'=>(∃ e n ep,x=.returned (doneV e n ep))/\Acted B g Y k os fence w w':=by
 have h0:=h
 obtain⟨m1,m2,pA,pn,pc,lA,ln,lc,settled,hgb,hos,hlive,hlast⟩:=h.open_
 have hpn:=hos.len
 have hgl:=hgb.lt
 obtain⟨w1,hw1,hz1,hb1,h5,h8⟩:=two_boxes w (cmdC kind epoch site o hA hn hc after since qA qn qc tag)
 have hg1:=hgb.below hb1 hgl
 have ho1:=hos.below hb1
 obtain⟨HW,H8,HB1,HZ1,H0⟩:=J5 hw1 h8 hb1 hz1 h0
 have H1:=J (h0.below hb1)
 obtain⟨HB,HG,H5,HOS,HPN⟩:=J5 hB hg1 h5 ho1 hpn
 obtain⟨w2,hw2⟩:∃ w2,w2=w1.alloc (.cells #[after,since] 26):=⟨_,rfl⟩
 have hb12:Below w1 w1 w2:=by rw [hw2];exact (Below.refl _ _).alloc (Nat.le_refl _) _
 have hb2:Below w w w2:=hb1.trans (hb12.mono (by omega))
 have hz2:w2.heap.size=w.heap.size+3:=by rw [hw2];simp;omega
 have hs2:Blk w2 (w.heap.size+2) 26 #[after,since]:=by
  have:=Blk.new w1 26 #[after,since]
  rw [hz1,<-hw2] at this
  exact this
 have h52:=h5.below hb12 h5.lt
 have h82:=h8.below hb12 h8.lt
 have hg2:=hg1.below hb12 hg1.lt
 obtain⟨k12,k13⟩:=h5.cs 12 2
 obtain⟨g3,g4⟩:=hg2.cs 3 2
 have g7:=hg2.c1 7
 obtain⟨k1,k2⟩:=h52.cs 1 2
 obtain⟨s0,s1⟩:=hs2.cs 0 2
 obtain⟨HW2,G8,GB1,GZ1,GG⟩:=J5 hw2 h82 hb2 hz2 hg2
 have GO:=J (ho1.below hb12)
 have GS:=J hs2
 have G1:=J (h0.below hb2)
 obtain⟨hE,hS,hhold⟩:∃ hE hS,holderC os=(hE,hS):=⟨_,_,rfl⟩
 rw [hhold] at g3 g4
 simp only at g3 g4
 have HN:=J haf
 clear hs2 hb12 hz2
 cases d1:(epoch != fence) with
 | true=>
  exact Y10
 | false=>
  cases d2:(hE==epoch) with
  | false=>
   exact Y10
  | true=>
   cases d3:(hS==site) with
   | false=>
    exact Y10
   | true=>
    clear h0 h hgb hos hpn hlive hlast hw1 hz1 hb1 h5 h8 hg1 ho1 hB h52 h82 hg2 hb2 hw2 hhold haf
    go_enter func46,ntmps46
    conv=>arg 2;arg 2;arg 2;arg 2;change part [1,1,1] (codeOf markLF)
    go_wp2_with fail
    rw [<-HW.out]
    try go_wp2_with fail
    rw [<-HW2.out]
    go_quiet (fail)
    go_wp2_with fail
    refine (ledHas_any after since (w2.drewN nq) (GG.out.drewN nq) rfl (GO.out.below (below_drewN (Below.refl _ _) nq)) HN.out).mono ?_
    rintro x w3 ⟨rfl,hb3⟩
    have hb3':Below w2 w2 w3:=⟨hb3.os,hb3.tape,hb3.output,hb3.size,hb3.block⟩
    have K8:=J (G8.out.below hb3' G8.out.lt)
    have KB1:=J (GB1.out.trans (hb3'.mono (by have:=GZ1.out;omega)))
    have KZ1:=J (show w.heap.size+3<=w3 by have:=GZ1.out;have:=hb3'.size;omega)
    have KS:=J (GS.out.below hb3' GS.out.lt)
    clear hb3 hb3'
    cases hasL os after since with
    | false=>
     go_wp2_with fail
     refine (failed_any _ _).mono ?_
     rintro x w4 ⟨rfl,hb2⟩
     have hb2':Below w3 w3 w4:=⟨hb2.os,hb2.tape,hb2.output,hb2.size,hb2.block⟩
     have h82:=K8.out.below hb2' K8.out.lt
     obtain⟨W,hW,z0,z1,z2,hk,hl⟩:=done_end h82 rfl (.int .i64 121) (.int .i64 0) (.int .i64 0)
     obtain⟨y0,y1,y2⟩:=h82.cs 0 3
     have f0:=h82.frozen
     obtain⟨HWW,HKK,HLL,HB2⟩:=J4 hW hk hl hb2'
     clear hb2 hb2'
     clear h82 hk hl hW
     go_wp2
     rw [<-HWW.out]
     refine dr 121 0 0 ?_
     exact⟨⟨_,_,_,rfl⟩,Acted.idle H0.out (KB1.out.trans ((HB2.out.mono (by have:=KZ1.out;omega)).trans (HLL.out.mono (by omega)))) HB.out⟩
    | true=>
     go_wp2_with fail
     exact mark_tail (wb:=w3) H0.out.1 HB.out KB1.out (by have:=KZ1.out;omega) (Acted.idle (H0.out.below KB1.out) (Below.refl _ _) (by have:=KZ1.out;have:=HB.out;omega)) K8.out KS.out (fun h=>h.elim (fun h=>by have:=(H0.out.1 _ h).2;omega) fun h=>by have:=KZ1.out;omega) _ ff
end
end Go.Proofs.Ytaipgdhdfpemcaa
