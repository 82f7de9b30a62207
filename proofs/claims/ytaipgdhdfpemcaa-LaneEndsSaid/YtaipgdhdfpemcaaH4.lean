/- THE WALKS OF LaneEnds, part 4. -/
import Derived.Test.YtaipgdhdfpemcaaH1
namespace Go.Proofs.Ytaipgdhdfpemcaa
set_option linter.all false
open Go.RowKit Go.Proofs.Try
set_option maxRecDepth 100000
set_option maxHeartbeats 4000000
@[reducible] noncomputable def turnF:Func:=Try.f74
def TwoS (w:World) (M:Value->World->Prop) (R:World->Prop):List Value->World->Prop
 | [],W=>W=w
 | [u],W=>M u W/\Below w w W
 | [_,_],W=>R W
 | _,_=>False
theorem TwoS.low {w W:World} {M:Value->World->Prop} {R:World->Prop} {vs:List Value} (h:TwoS w M R vs W) (hl:vs.length<=1):Below w w W:=by
 rcases vs with _|⟨u,_|⟨v,l⟩⟩
 ·obtain rfl:=h
  exact Below.refl _ _
 ·exact h.2
 ·simp at hl
theorem TwoS.nil_ {w W:World} {M:Value->World->Prop} {R:World->Prop} {vs:List Value} (h:TwoS w M R vs W) (hl:vs.length<=0):W=w:=by
 rcases vs with _|⟨u,l⟩
 ·exact h
 ·simp at hl
section
variable {w:World} {tb s gs:Nat}
theorem tn10 {E:Int} (Q:Z) (a:Act) (hfr:Fr 132 a [(0,tb),(4,.int .i64 (s:Nat))]) (hs:s<2) (hc:w.cell? ⟨tb,s,none⟩=some (.pointer (some ⟨gs,0,none⟩))) (h2:w.cell? ⟨tb,2,none⟩=some (.int .i64 E)) (R:World->Prop)
 (hA:∀ w0,w0=w.drew->Calls prog 13 #[.pointer (some ⟨gs,0,none⟩),.agg (cmd0 4 E (s:Nat) 0 0 none 0 0)] w0 fun e w'=>(∃ v,e=.returned v)/\R w')
 (hQ:∀ a' W,Fr 132 a' []->R W->Q .normal a' W):(part [1,1,1,0,1,0,1,0,1] (codeOf turnF)).wp prog Q a w:=by
 obtain⟨w0,hw0⟩:∃ w0,w0=w.drew:=⟨_,rfl⟩
 have hA0:=hA w0 hw0
 have hc0:w0.cell? ⟨tb,s,none⟩=some (.pointer (some ⟨gs,0,none⟩)):=by rw [hw0];exact hc
 have h20:w0.cell? ⟨tb,2,none⟩=some (.int .i64 E):=by rw [hw0];exact h2
 obtain⟨HA,HC,H2,HQ⟩:=J4 hA0 hc0 h20 hQ
 clear hA hc h2 hQ hA0 hc0 h20
 refine gg hfr fun t=>?_
 obtain⟨w1,hw1⟩:∃ w1,w1=w:=⟨_,rfl⟩
 rw [<-hw1]
 rw [<-hw1] at hw0
 clear hw1
 have HW0:=J hw0
 clear hw0
 refine wp_region_chain kr [12] (fun i=>match i with|0=>.pointer (some ⟨tb,0,none⟩)|1=>.int .i64 (s:Nat)|2=>.pointer (some ⟨tb,0,none⟩)|3=>.pointer (some ⟨tb,0,none⟩)|4=>.pointer (some ⟨tb,s,none⟩)|5=>.pointer (some ⟨gs,0,none⟩)|6=>.pointer (some ⟨tb,0,none⟩)|7=>.pointer (some ⟨tb,0,none⟩)|8=>.pointer (some ⟨tb,2,none⟩)|9=>.int .i64 E|10=>.int .i64 (s:Nat)|11=>.agg (cmd0 4 E (s:Nat) 0 0 none 0 0)|_=>undef) (OneC w0 R) (fun _ _=>true) kr kr kr kr ?hS ?hfree ?hlink ?hend
 case hS=>exact HW0.out.symm
 case hfree=>
  intro i o F U vs W ho hni hS hlen hlim hat hoff hd
  have e0:F.eval (.tmp 0)=.pointer (some ⟨tb,0,none⟩):=(hoff 0 kd).trans rfl
  have t0:=act_tmp e0
  have e4:F.eval (.tmp 4)=.int .i64 (s:Nat):=(hoff 4 kd).trans rfl
  have t4:=act_tmp e4
  have qa:=Lib.hid hat
  have qb:=Lib.hid hd
  clear hat hoff hd
  match i with
  | 0|1|6|10=>
   exact EY22
  | 2=>
   cases ho
   have t63:=act_tmp (fev qa qb 0 63)
   exact vl ⟨rfl,rfl⟩
  | 3=>
   cases ho
   have t65:=act_tmp (fev qa qb 2 65)
   exact vl ⟨rfl,rfl⟩
  | 4=>
   cases ho
   have e66:=fev qa qb 3 66
   have t66:=act_tmp e66
   have e64:=fev qa qb 1 64
   have t64:=act_tmp e64
   exact EY4
  | 5=>
   cases ho
   have t67:=act_tmp (fev qa qb 4 67)
   obtain rfl:=hS.nil_ (hlim 0 12 rfl rfl)
   have d0:=HC.out
   exact vl ⟨rfl,rfl⟩
  | 7=>
   cases ho
   have t69:=act_tmp (fev qa qb 6 69)
   exact vl ⟨rfl,rfl⟩
  | 8=>
   cases ho
   have t70:=act_tmp (fev qa qb 7 70)
   exact vl ⟨rfl,rfl⟩
  | 9=>
   cases ho
   have t71:=act_tmp (fev qa qb 8 71)
   obtain rfl:=hS.nil_ (hlim 0 12 rfl rfl)
   have d0:=H2.out
   exact vl ⟨rfl,rfl⟩
  | 11=>
   cases ho
   have t72:=act_tmp (fev qa qb 9 72)
   have t73:=act_tmp (fev qa qb 10 73)
   exact vl ⟨rfl,rfl⟩
  | 12=>
   exact absurd (by decide) hni
  | i+13=>exact absurd ho (by simp)
 case hlink=>
  intro k i o F U vs W hk ho hS hvl hat hoff hd
  have e0:F.eval (.tmp 0)=.pointer (some ⟨tb,0,none⟩):=(hoff 0 kd).trans rfl
  have t0:=act_tmp e0
  have e4:F.eval (.tmp 4)=.int .i64 (s:Nat):=(hoff 4 kd).trans rfl
  have t4:=act_tmp e4
  have qa:=Lib.hid hat
  have qb:=Lib.hid hd
  clear hat hoff hd
  match k with
  | 0=>
   cases hk
   cases ho
   obtain rfl:=List.eq_nil_of_length_eq_zero hvl
   have e68:=fev qa qb 5 68
   have t68:=act_tmp e68
   have e74:=fev qa qb 11 74
   have t74:=act_tmp e74
   obtain rfl:=hS
   refine wp_enter' 13 #[.pointer (some ⟨gs,0,none⟩),.agg (cmd0 4 E (s:Nat) 0 0 none 0 0)] (by unfold execOp;go_simp) ?_
   exact EY25
  | k+1=>exact absurd hk (by simp)
 case hend=>
  intro U vs W hS hvl hfr hch
  obtain⟨x0,rfl⟩:=ln1 hvl
  exact EY8
theorem tn13 {fence k0 k1 k2 k3:Int} {b3:Nat} {o:OpC} {hA:O} {hn hc:Nat} (Q:Z) (a:Act) (hfr:Fr 132 a [(0,tb),(3,b3),(4,.int .i64 (s:Nat))]) (hs:s<2) (hcc:w.cell? ⟨tb,s,none⟩=some (.pointer (some ⟨gs,0,none⟩))) (hb:Blk w b3 121 #[k0,k1,k2,k3,.int .i64 o.n,o.epoch,o.kind,o.site,o.client,o.seq,.string o.name,o.size,.slice hA hn hc]) (R:World->Prop)
 (hF:∀ w0,w0=w.drew->Calls prog 24 #[.pointer (some ⟨gs,0,none⟩)] w0 fun x w'=>x=.returned (.int .i64 fence)/\w'=w0)
 (hAp:∀ w0,w0=w.drew->Calls prog 13 #[.pointer (some ⟨gs,0,none⟩),.agg (cmdC 1 fence (s:Nat) o hA hn hc 0 0 none 0 0 0)] w0 fun e w'=>(∃ v,e=.returned v)/\R w')
 (hQ:∀ a' W,Fr 132 a' []->R W->Q .normal a' W):(part [1,1,1,0,1,1,1,0,1] (codeOf turnF)).wp prog Q a w:=by
 obtain⟨w0,hw0⟩:∃ w0,w0=w.drew:=⟨_,rfl⟩
 have hA0:=hAp w0 hw0
 have hF0:=hF w0 hw0
 have hc0:w0.cell? ⟨tb,s,none⟩=some (.pointer (some ⟨gs,0,none⟩)):=by rw [hw0];exact hcc
 have hb0:Blk w0 b3 121 #[k0,k1,k2,k3,.int .i64 o.n,o.epoch,o.kind,o.site,o.client,o.seq,.string o.name,o.size,.slice hA hn hc]:=by rw [hw0];exact hb
 obtain⟨HA,HF,HC,HB,HQ⟩:=J5 hA0 hF0 hc0 hb0 hQ
 clear hAp hF hcc hb hQ hA0 hF0 hc0 hb0
 refine gg hfr fun t=>?_
 obtain⟨w1,hw1⟩:∃ w1,w1=w:=⟨_,rfl⟩
 rw [<-hw1]
 rw [<-hw1] at hw0
 clear hw1
 have HW0:=J hw0
 clear hw0
 refine wp_region_chain kr [17] (fun i=>match i with|0=>.pointer (some ⟨tb,0,none⟩)|1=>.int .i64 (s:Nat)|2=>.pointer (some ⟨tb,0,none⟩)|3=>.pointer (some ⟨tb,0,none⟩)|4=>.pointer (some ⟨tb,s,none⟩)|5=>.pointer (some ⟨gs,0,none⟩)|6=>.pointer (some ⟨tb,0,none⟩)|7=>.int .i64 (s:Nat)|8=>.pointer (some ⟨tb,0,none⟩)|9=>.pointer (some ⟨tb,0,none⟩)|10=>.pointer (some ⟨tb,s,none⟩)|11=>.pointer (some ⟨gs,0,none⟩)|12=>.int .i64 fence|13=>.int .i64 (s:Nat)|14=>.pointer (some ⟨b3,4,none⟩)|15=>.agg #[.int .i64 o.n,o.epoch,o.kind,o.site,o.client,o.seq,.string o.name,o.size,.slice hA hn hc]|16=>.agg (cmdC 1 fence (s:Nat) o hA hn hc 0 0 none 0 0 0)|_=>undef) (OneC w0 R) (fun _ _=>true) kr kr kr kr ?hS ?hfree ?hlink ?hend
 case hS=>exact HW0.out.symm
 case hfree=>
  intro i o F U vs W ho hni hS hlen hlim hat hoff hd
  have e0:F.eval (.tmp 0)=.pointer (some ⟨tb,0,none⟩):=(hoff 0 kd).trans rfl
  have t0:=act_tmp e0
  have e3:F.eval (.tmp 3)=.pointer (some ⟨b3,0,none⟩):=(hoff 3 kd).trans rfl
  have t3:=act_tmp e3
  have e4:F.eval (.tmp 4)=.int .i64 (s:Nat):=(hoff 4 kd).trans rfl
  have t4:=act_tmp e4
  have qa:=Lib.hid hat
  have qb:=Lib.hid hd
  clear hat hoff hd
  match i with
  | 0|1|6|7|13|14=>
   exact EY22
  | 2=>
   cases ho
   have t84:=act_tmp (fev qa qb 0 84)
   exact vl ⟨rfl,rfl⟩
  | 3=>
   cases ho
   have t86:=act_tmp (fev qa qb 2 86)
   exact vl ⟨rfl,rfl⟩
  | 4=>
   cases ho
   have e87:=fev qa qb 3 87
   have t87:=act_tmp e87
   have e85:=fev qa qb 1 85
   have t85:=act_tmp e85
   exact EY4
  | 5=>
   cases ho
   have t88:=act_tmp (fev qa qb 4 88)
   obtain rfl:=hS.nil_ (hlim 0 17 rfl rfl)
   have d0:=HC.out
   exact vl ⟨rfl,rfl⟩
  | 8=>
   cases ho
   have t90:=act_tmp (fev qa qb 6 90)
   exact vl ⟨rfl,rfl⟩
  | 9=>
   cases ho
   have t92:=act_tmp (fev qa qb 8 92)
   exact vl ⟨rfl,rfl⟩
  | 10=>
   cases ho
   have e93:=fev qa qb 9 93
   have t93:=act_tmp e93
   have e91:=fev qa qb 7 91
   have t91:=act_tmp e91
   exact EY4
  | 11=>
   cases ho
   have t94:=act_tmp (fev qa qb 10 94)
   obtain rfl:=hS.nil_ (hlim 0 17 rfl rfl)
   have d0:=HC.out
   exact vl ⟨rfl,rfl⟩
  | 12=>
   cases ho
   have e95:=fev qa qb 11 95
   have t95:=act_tmp e95
   obtain rfl:=hS.nil_ (hlim 0 17 rfl rfl)
   refine wp_enter' 24 #[.pointer (some ⟨gs,0,none⟩)] (by unfold execOp;go_simp) ?_
   refine HF.out.mono ?_
   rintro e W' ⟨rfl,rfl⟩
   exact⟨_,rfl,rfl,rfl⟩
  | 15=>
   cases ho
   have t98:=act_tmp (fev qa qb 14 98)
   obtain rfl:=hS.nil_ (hlim 0 17 rfl rfl)
   have d4:=HB.out.c1 4
   have d5:=HB.out.c1 5
   have d6:=HB.out.c1 6
   have d7:=HB.out.c1 7
   have d8:=HB.out.c1 8
   have d9:=HB.out.c1 9
   have d10:=HB.out.c1 10
   have d11:=HB.out.c1 11
   have d12:=HB.out.c1 12
   exact vl ⟨rfl,rfl⟩
  | 16=>
   cases ho
   have t96:=act_tmp (fev qa qb 12 96)
   have t97:=act_tmp (fev qa qb 13 97)
   have t99:=act_tmp (fev qa qb 15 99)
   exact vl ⟨rfl,rfl⟩
  | 17=>
   exact absurd (by decide) hni
  | i+18=>exact absurd ho (by simp)
 case hlink=>
  intro k i o F U vs W hk ho hS hvl hat hoff hd
  have e0:F.eval (.tmp 0)=.pointer (some ⟨tb,0,none⟩):=(hoff 0 kd).trans rfl
  have t0:=act_tmp e0
  have e3:F.eval (.tmp 3)=.pointer (some ⟨b3,0,none⟩):=(hoff 3 kd).trans rfl
  have t3:=act_tmp e3
  have e4:F.eval (.tmp 4)=.int .i64 (s:Nat):=(hoff 4 kd).trans rfl
  have t4:=act_tmp e4
  have qa:=Lib.hid hat
  have qb:=Lib.hid hd
  clear hat hoff hd
  match k with
  | 0=>
   cases hk
   cases ho
   obtain rfl:=List.eq_nil_of_length_eq_zero hvl
   have e89:=fev qa qb 5 89
   have t89:=act_tmp e89
   have e100:=fev qa qb 16 100
   have t100:=act_tmp e100
   obtain rfl:=hS
   refine wp_enter' 13 #[.pointer (some ⟨gs,0,none⟩),.agg (cmdC 1 fence (s:Nat) o hA hn hc 0 0 none 0 0 0)] (by unfold execOp;go_simp) ?_
   exact EY25
  | k+1=>exact absurd hk (by simp)
 case hend=>
  intro U vs W hS hvl hfr hch
  obtain⟨x0,rfl⟩:=ln1 hvl
  exact EY8
theorem tn16 {x:CmdX} {u m sc:Nat} {ad:Addr} (Q:Z) (a:Act) (hfr:Fr 132 a [(0,tb),(4,.int .i64 (s:Nat))]) (hs:s<2) (hu:(1:Int)-(s:Nat)=(u:Nat)) (hl:tb<w) (hm4:m<=4096) (hcc:w.cell? ⟨tb,u,none⟩=some (.pointer (some ⟨gs,0,none⟩))) (hsl:w.cell? ⟨tb,3,none⟩=some (.slice (some ad) (m+1) sc)) (hx:∀ j v,x.cells[j]? = some v->w.cell? ((ad.add (m*16)).add j)=some v) (h16:x.cells.length=16) (M:Value->World->Prop) (R:World->Prop)
 (hO:∀ w0,w0=w.drew->Calls prog 14 #[.agg x.cells.toArray] w0 fun e w'=>∃ v,e=.returned v/\M v w'/\Below w0 w0 w')
 (hA:∀ w0,w0=w.drew->∀ v w1,M v w1->Below w0 w0 w1->∃ cs,v=.agg cs/\Calls prog 13 #[.pointer (some ⟨gs,0,none⟩),.agg cs] w1 fun e w'=>(∃ v,e=.returned v)/\R w')
 (hQ:∀ a' W,Fr 132 a' []->R W->Q .normal a' W):(part [1,1,1,0,1,1,1,1,1,0,1,0] (codeOf turnF)).wp prog Q a w:=by
 obtain⟨w0,hw0⟩:∃ w0,w0=w.drew:=⟨_,rfl⟩
 have hA0:=hA w0 hw0
 have hO0:=hO w0 hw0
 have hc0:w0.cell? ⟨tb,u,none⟩=some (.pointer (some ⟨gs,0,none⟩)):=by rw [hw0];exact hcc
 have hs0:w0.cell? ⟨tb,3,none⟩=some (.slice (some ad) (m+1) sc):=by rw [hw0];exact hsl
 have hx0:∀ j v,x.cells[j]? = some v->w0.cell? ((ad.add (m*16)).add j)=some v:=by rw [hw0];exact hx
 have hl0:tb<w0:=by rw [hw0];exact hl
 have hwu:IntKind.i64.wrap ((1:Int)-(s:Nat))=(u:Nat):=by rw [hu];exact IntWalk.i64_in _ (by omega)
 have hwm:IntKind.i64.wrap (m:Int)=(m:Nat):=IntWalk.i64_in _ (by omega)
 have hu2:u<2:=by omega
 have hmm:((m:Nat):Int)<((m+1:Nat):Int):=by omega
 obtain⟨HA,HO,HQ⟩:=J3 hA0 hO0 hQ
 obtain⟨HC,HS,HX,HL,HWU,HWM,HM⟩:=J7 hc0 hs0 hx0 hl0 hwu hwm hmm
 have H16:=J h16
 clear hcc hsl hx hl hc0 hs0 hx0 hl0 hwu hwm hmm hu h16
 clear hA hO hQ hA0 hO0
 refine gg hfr fun t=>?_
 obtain⟨w1,hw1⟩:∃ w1,w1=w:=⟨_,rfl⟩
 rw [<-hw1]
 rw [<-hw1] at hw0
 clear hw1
 have HW0:=J hw0
 clear hw0
 refine wp_region_chain kr [19,20] (fun i=>match i with|0=>.pointer (some ⟨tb,0,none⟩)|1=>.int .i64 (s:Nat)|2=>.int .i64 (u:Nat)|3=>.pointer (some ⟨tb,0,none⟩)|4=>.pointer (some ⟨tb,0,none⟩)|5=>.pointer (some ⟨tb,u,none⟩)|6=>.pointer (some ⟨gs,0,none⟩)|7=>.pointer (some ⟨tb,0,none⟩)|8=>.pointer (some ⟨tb,0,none⟩)|9=>.pointer (some ⟨tb,3,none⟩)|10=>.slice (some ad) (m+1) sc|11=>.pointer (some ⟨tb,0,none⟩)|12=>.pointer (some ⟨tb,0,none⟩)|13=>.pointer (some ⟨tb,3,none⟩)|14=>.slice (some ad) (m+1) sc|15=>.int .i64 ((m+1):Nat)|16=>.int .i64 (m:Nat)|17=>.pointer (some (ad.add (m*16)))|18=>.agg x.cells.toArray|_=>undef) (TwoS w0 M R) (fun s i=>(s==19&&decide (7<=i/\i<=19))||(s==20&&decide (i<=20))) kr kr kr kr ?hS ?hfree ?hlink ?hend
 case hS=>exact HW0.out.symm
 case hfree=>
  intro i o F U vs W ho hni hS hlen hlim hat hoff hd
  have e0:F.eval (.tmp 0)=.pointer (some ⟨tb,0,none⟩):=(hoff 0 kd).trans rfl
  have t0:=act_tmp e0
  have e4:F.eval (.tmp 4)=.int .i64 (s:Nat):=(hoff 4 kd).trans rfl
  have t4:=act_tmp e4
  have qa:=Lib.hid hat
  have qb:=Lib.hid hd
  clear hat hoff hd
  match i with
  | 0|1|7|11=>
   exact EY22
  | 2=>
   cases ho
   have e112:=fev qa qb 1 112
   have t112:=act_tmp e112
   exact vl ⟨rfl,rfl⟩ (h:=by unfold execOp;go_simp;all_goals first|rfl|exact HWU.out|exact congrArg _ HWU.out|omega)
  | 3=>
   cases ho
   have t111:=act_tmp (fev qa qb 0 111)
   exact vl ⟨rfl,rfl⟩
  | 4=>
   cases ho
   have t114:=act_tmp (fev qa qb 3 114)
   exact vl ⟨rfl,rfl⟩
  | 5=>
   cases ho
   have e115:=fev qa qb 4 115
   have t115:=act_tmp e115
   have e113:=fev qa qb 2 113
   have t113:=act_tmp e113
   exact EY4
  | 6=>
   cases ho
   have t116:=act_tmp (fev qa qb 5 116)
   exact EY13
  | 8=>
   cases ho
   have t118:=act_tmp (fev qa qb 7 118)
   exact vl ⟨rfl,rfl⟩
  | 9=>
   cases ho
   have t119:=act_tmp (fev qa qb 8 119)
   exact vl ⟨rfl,rfl⟩
  | 10=>
   cases ho
   have t120:=act_tmp (fev qa qb 9 120)
   exact EY12
  | 12=>
   cases ho
   have t122:=act_tmp (fev qa qb 11 122)
   exact vl ⟨rfl,rfl⟩
  | 13=>
   cases ho
   have t123:=act_tmp (fev qa qb 12 123)
   exact vl ⟨rfl,rfl⟩
  | 14=>
   cases ho
   have t124:=act_tmp (fev qa qb 13 124)
   exact EY12
  | 15=>
   cases ho
   have t125:=act_tmp (fev qa qb 14 125)
   exact vl ⟨rfl,rfl⟩
  | 16=>
   cases ho
   have e126:=fev qa qb 15 126
   have t126:=act_tmp e126
   exact vl ⟨rfl,rfl⟩ (h:=by have q1:=HWM.out;unfold execOp;go_simp;all_goals first|rfl|exact q1|exact congrArg _ q1|omega)
  | 17=>
   cases ho
   have e121:=fev qa qb 10 121
   have t121:=act_tmp e121
   have e127:=fev qa qb 16 127
   have t127:=act_tmp e127
   exact EY15
  | 18=>
   cases ho
   have e128:=fev qa qb 17 128
   obtain rfl:=hS.nil_ (hlim 0 19 rfl rfl)
   exact wp_load_any 47 (.tmp 128) rfl (ad.add (m*16)) e128 x.cells _ HX.out underlying47 rfl (by rw [H16.out];exact Try.sizeCmd) ⟨rfl,rfl⟩
  | 19|20=>
   exact absurd (by decide) hni
  | i+21=>exact absurd ho (by simp)
 case hlink=>
  intro k i o F U vs W hk ho hS hvl hat hoff hd
  have e0:F.eval (.tmp 0)=.pointer (some ⟨tb,0,none⟩):=(hoff 0 kd).trans rfl
  have t0:=act_tmp e0
  have e4:F.eval (.tmp 4)=.int .i64 (s:Nat):=(hoff 4 kd).trans rfl
  have t4:=act_tmp e4
  have qa:=Lib.hid hat
  have qb:=Lib.hid hd
  clear hat hoff hd
  match k with
  | 0=>
   cases hk
   cases ho
   obtain rfl:=List.eq_nil_of_length_eq_zero hvl
   have e129:=fev qa qb 18 129
   have t129:=act_tmp e129
   exact EY10
  | 1=>
   cases hk
   cases ho
   obtain⟨u0,rfl⟩:=ln1 hvl
   have e117:=fev qa qb 6 117
   have t117:=act_tmp e117
   have e130:=cev qa qb 19 130
   have t130:=act_tmp e130
   exact EY7
  | k+2=>exact absurd hk (by simp)
 case hend=>
  intro U vs W hS hvl hfr hch
  obtain⟨x0,x1,rfl⟩:=ln2 hvl
  exact EY8
theorem tn6 {x:CmdX} {u m sn sc tn tc:Nat} {ad at_:Addr} (Q:Z) (a:Act) (hfr:Fr 132 a [(0,tb),(6,.int .i64 (m:Nat))]) (hl:tb<w) (hu:u<2) (hmn:m<sn) (hmt':m<tn) (hm4:sn<=4096) (hcc:w.cell? ⟨tb,u,none⟩=some (.pointer (some ⟨gs,0,none⟩))) (hsl:w.cell? ⟨tb,3,none⟩=some (.slice (some ad) sn sc)) (htl:w.cell? ⟨tb,4,none⟩=some (.slice (some at_) tn tc)) (hx:∀ j v,x.cells[j]? = some v->w.cell? ((ad.add (m*16)).add j)=some v) (h16:x.cells.length=16) (hy:w.cell? (at_.add m)=some (.int .i64 (u:Nat))) (hab:at_.block<w) (M:Value->World->Prop) (R:World->Prop)
 (hO:∀ w0,w0=w.drew->Calls prog 14 #[.agg x.cells.toArray] w0 fun e w'=>∃ v,e=.returned v/\M v w'/\Below w0 w0 w')
 (hA:∀ w0,w0=w.drew->∀ v w1,M v w1->Below w0 w0 w1->∃ cs,v=.agg cs/\Calls prog 13 #[.pointer (some ⟨gs,0,none⟩),.agg cs] w1 fun e w'=>(∃ v,e=.returned v)/\R w')
 (hQ:∀ a' W,Fr 132 a' []->R W->Q .normal a' W):(part [1,1,1,0,1,1,1,1,1,1,1,1,0,1] (codeOf turnF)).wp prog Q a w:=by
 obtain⟨w0,hw0⟩:∃ w0,w0=w.drew:=⟨_,rfl⟩
 have hA0:=hA w0 hw0
 have hO0:=hO w0 hw0
 have hc0:w0.cell? ⟨tb,u,none⟩=some (.pointer (some ⟨gs,0,none⟩)):=by rw [hw0];exact hcc
 have hs0:w0.cell? ⟨tb,3,none⟩=some (.slice (some ad) sn sc):=by rw [hw0];exact hsl
 have ht0:w0.cell? ⟨tb,4,none⟩=some (.slice (some at_) tn tc):=by rw [hw0];exact htl
 have hx0:∀ j v,x.cells[j]? = some v->w0.cell? ((ad.add (m*16)).add j)=some v:=by rw [hw0];exact hx
 have hy0:w0.cell? (at_.add m)=some (.int .i64 (u:Nat)):=by rw [hw0];exact hy
 have hl0:tb<w0:=by rw [hw0];exact hl
 have hk0:(at_.add m).block<w0:=by rw [hw0,block_of_add];exact hab
 have hmm:((m:Nat):Int)<(sn:Nat):=by omega
 have hmt:((m:Nat):Int)<(tn:Nat):=by omega
 obtain⟨HA,HO,HQ⟩:=J3 hA0 hO0 hQ
 obtain⟨HC,HS,HX,HL,HT,HTX,HTL,HM,HMT⟩:=J9 hc0 hs0 hx0 hl0 ht0 hy0 hk0 hmm hmt
 have H16:=J h16
 clear hcc hsl htl hx hy hl hab hc0 hs0 ht0 hx0 hy0 hl0 hk0 hmm hmt h16
 clear hA hO hQ hA0 hO0
 refine gg hfr fun t=>?_
 obtain⟨w1,hw1⟩:∃ w1,w1=w:=⟨_,rfl⟩
 rw [<-hw1]
 rw [<-hw1] at hw0
 clear hw1
 have HW0:=J hw0
 clear hw0
 refine wp_region_chain kr [19,20] (fun i=>match i with|0=>.pointer (some ⟨tb,0,none⟩)|1=>.pointer (some ⟨tb,0,none⟩)|2=>.pointer (some ⟨tb,0,none⟩)|3=>.pointer (some ⟨tb,4,none⟩)|4=>.slice (some at_) tn tc|5=>.int .i64 (m:Nat)|6=>.pointer (some (at_.add m))|7=>.int .i64 (u:Nat)|8=>.pointer (some ⟨tb,0,none⟩)|9=>.pointer (some ⟨tb,0,none⟩)|10=>.pointer (some ⟨tb,u,none⟩)|11=>.pointer (some ⟨gs,0,none⟩)|12=>.pointer (some ⟨tb,0,none⟩)|13=>.pointer (some ⟨tb,0,none⟩)|14=>.pointer (some ⟨tb,3,none⟩)|15=>.slice (some ad) sn sc|16=>.int .i64 (m:Nat)|17=>.pointer (some (ad.add (m*16)))|18=>.agg x.cells.toArray|_=>undef) (TwoS w0 M R) (fun s i=>(s==19&&decide (12<=i/\i<=19))||(s==20&&decide (i<=20))) kr kr kr kr ?hS ?hfree ?hlink ?hend
 case hS=>exact HW0.out.symm
 case hfree=>
  intro i o F U vs W ho hni hS hlen hlim hat hoff hd
  have e0:F.eval (.tmp 0)=.pointer (some ⟨tb,0,none⟩):=(hoff 0 kd).trans rfl
  have t0:=act_tmp e0
  have e6:F.eval (.tmp 6)=.int .i64 (m:Nat):=(hoff 6 kd).trans rfl
  have t6:=act_tmp e6
  have qa:=Lib.hid hat
  have qb:=Lib.hid hd
  clear hat hoff hd
  match i with
  | 0|1|5|12|16=>
   exact EY22
  | 2=>
   cases ho
   have t29:=act_tmp (fev qa qb 1 29)
   exact vl ⟨rfl,rfl⟩
  | 3=>
   cases ho
   have t30:=act_tmp (fev qa qb 2 30)
   exact vl ⟨rfl,rfl⟩
  | 4=>
   cases ho
   have t31:=act_tmp (fev qa qb 3 31)
   have hsm:=hS.low (hlim 1 20 rfl rfl)
   have d0:=(hsm.cell (show (⟨tb,4,none⟩:Addr).block<w0 from HL.out)).trans HT.out
   exact vl ⟨rfl,rfl⟩
  | 6=>
   cases ho
   have e32:=fev qa qb 4 32
   have t32:=act_tmp e32
   have e33:=fev qa qb 5 33
   have t33:=act_tmp e33
   exact vl ⟨rfl,rfl⟩ (h:=by have q1:=HMT.out;unfold execOp;go_simp;all_goals first|rfl|omega|exact IntWalk.i64_in _ (by omega))
  | 7=>
   cases ho
   have t34:=act_tmp (fev qa qb 6 34)
   have hsm:=hS.low (hlim 1 20 rfl rfl)
   have d0:=(hsm.cell (show (at_.add m).block<w0 from HTL.out)).trans HTX.out
   exact vl ⟨rfl,rfl⟩
  | 8=>
   cases ho
   have t28:=act_tmp (fev qa qb 0 28)
   exact vl ⟨rfl,rfl⟩
  | 9=>
   cases ho
   have t36:=act_tmp (fev qa qb 8 36)
   exact vl ⟨rfl,rfl⟩
  | 10=>
   cases ho
   have e37:=fev qa qb 9 37
   have t37:=act_tmp e37
   have e35:=fev qa qb 7 35
   have t35:=act_tmp e35
   exact EY4
  | 11=>
   cases ho
   have t38:=act_tmp (fev qa qb 10 38)
   exact EY13
  | 13=>
   cases ho
   have t40:=act_tmp (fev qa qb 12 40)
   exact vl ⟨rfl,rfl⟩
  | 14=>
   cases ho
   have t41:=act_tmp (fev qa qb 13 41)
   exact vl ⟨rfl,rfl⟩
  | 15=>
   cases ho
   have t42:=act_tmp (fev qa qb 14 42)
   exact EY12
  | 17=>
   cases ho
   have e43:=fev qa qb 15 43
   have t43:=act_tmp e43
   have e44:=fev qa qb 16 44
   have t44:=act_tmp e44
   exact EY15
  | 18=>
   cases ho
   have e45:=fev qa qb 17 45
   obtain rfl:=hS.nil_ (hlim 0 19 rfl rfl)
   exact wp_load_any 47 (.tmp 45) rfl (ad.add (m*16)) e45 x.cells _ HX.out underlying47 rfl (by rw [H16.out];exact Try.sizeCmd) ⟨rfl,rfl⟩
  | 19|20=>
   exact absurd (by decide) hni
  | i+21=>exact absurd ho (by simp)
 case hlink=>
  intro k i o F U vs W hk ho hS hvl hat hoff hd
  have e0:F.eval (.tmp 0)=.pointer (some ⟨tb,0,none⟩):=(hoff 0 kd).trans rfl
  have t0:=act_tmp e0
  have e6:F.eval (.tmp 6)=.int .i64 (m:Nat):=(hoff 6 kd).trans rfl
  have t6:=act_tmp e6
  have qa:=Lib.hid hat
  have qb:=Lib.hid hd
  clear hat hoff hd
  match k with
  | 0=>
   cases hk
   cases ho
   obtain rfl:=List.eq_nil_of_length_eq_zero hvl
   have e46:=fev qa qb 18 46
   have t46:=act_tmp e46
   exact EY10
  | 1=>
   cases hk
   cases ho
   obtain⟨u0,rfl⟩:=ln1 hvl
   have e39:=fev qa qb 11 39
   have t39:=act_tmp e39
   have e47:=cev qa qb 19 47
   have t47:=act_tmp e47
   exact EY7
  | k+2=>exact absurd hk (by simp)
 case hend=>
  intro U vs W hS hvl hfr hch
  obtain⟨x0,x1,rfl⟩:=ln2 hvl
  exact EY8
end
section
variable {w:World} {tb b3 s n:Nat} {k0 k1 k2 k3:Int} {o:OpC} {hA:O} {hn hc:Nat}
theorem tn1 (Q:Z) (a:Act) (hfr:Fr 132 a [(0,tb),(3,b3)]) (hb:Blk w b3 121 #[k0,k1,k2,k3,.int .i64 o.n,o.epoch,o.kind,o.site,o.client,o.seq,.string o.name,o.size,.slice hA hn hc]) (hr:IntKind.i64.wrap ((IntKind.u64.wrap k1).tmod 2)=(s:Nat)) (hr2:IntKind.u64.wrap ((IntKind.u64.wrap k1).tmod 2)=(IntKind.u64.wrap k1).tmod 2)
 (hQ:∀ a',Fr 132 a' [(0,tb),(3,b3),(4,.int .i64 (s:Nat))]->Q .normal a' w):(part [1,0] (codeOf turnF)).wp prog Q a w:=by
 obtain⟨HB,HR,HR2,HQ⟩:=J4 hb hr hr2 hQ
 clear hb hr hr2 hQ
 obtain⟨d,z0,f0,f3,-⟩:=hfr
 have z:=J z0
 have t0:=of_at f0
 have t3:=of_at f3
 clear z0 f0 f3
 refine wp_region_ops (id:=1) kr ?_
 conv=>arg 4;whnf
 refine wpl_v 7 (.pointer (some ⟨b3,1,none⟩)) (by rw [z.out];decide) fun a nx=>?_
 obtain⟨dd,zz,t7,oo⟩:=nx
 replace d:=dd.trans d
 replace z:=J (zz.trans z.out)
 replace t0:=(oo 0 (by decide)).trans t0
 replace t3:=(oo 3 (by decide)).trans t3
 clear dd zz oo
 conv=>arg 4;whnf
 have d1:=HB.out.c1 1
 refine wpl_v 8 (.int .i64 k1) (by rw [z.out];decide) fun a nx=>?_
 obtain⟨dd,zz,t8,oo⟩:=nx
 replace d:=dd.trans d
 replace z:=J (zz.trans z.out)
 replace t0:=(oo 0 (by decide)).trans t0
 replace t3:=(oo 3 (by decide)).trans t3
 clear dd zz oo t7
 conv=>arg 4;whnf
 refine wpl_v 9 (.int .u64 (IntKind.u64.wrap k1)) (by rw [z.out];decide) fun a nx=>?_
 obtain⟨dd,zz,t9,oo⟩:=nx
 replace d:=dd.trans d
 replace z:=J (zz.trans z.out)
 replace t0:=(oo 0 (by decide)).trans t0
 replace t3:=(oo 3 (by decide)).trans t3
 clear dd zz oo t8
 conv=>arg 4;whnf
 refine wpl_v 10 (.int .u64 ((IntKind.u64.wrap k1).tmod 2)) (by rw [z.out];decide) (h:=by unfold execOp;go_simp;all_goals first|rfl|exact HR.out|exact HR2.out|omega) fun a nx=>?_
 obtain⟨dd,zz,t10,oo⟩:=nx
 replace d:=dd.trans d
 replace z:=J (zz.trans z.out)
 replace t0:=(oo 0 (by decide)).trans t0
 replace t3:=(oo 3 (by decide)).trans t3
 clear dd zz oo t9
 conv=>arg 4;whnf
 refine wpl_v 11 (.int .i64 (s:Nat)) (by rw [z.out];decide) (h:=by unfold execOp;go_simp;all_goals first|rfl|exact HR.out|exact HR2.out|omega) fun a nx=>?_
 obtain⟨dd,zz,t11,oo⟩:=nx
 replace d:=dd.trans d
 replace z:=J (zz.trans z.out)
 replace t0:=(oo 0 (by decide)).trans t0
 replace t3:=(oo 3 (by decide)).trans t3
 clear dd zz oo t10
 conv=>arg 4;whnf
 refine wpl_v 4 (.int .i64 (s:Nat)) (by rw [z.out];decide) fun a nx=>?_
 obtain⟨dd,zz,t4,oo⟩:=nx
 replace d:=dd.trans d
 replace z:=J (zz.trans z.out)
 replace t0:=(oo 0 (by decide)).trans t0
 replace t3:=(oo 3 (by decide)).trans t3
 clear dd zz oo t11
 conv=>arg 4;whnf
 exact HQ.out a ⟨d,z.out,at_of t0,at_of t3,at_of t4,trivial⟩
theorem tn5 (Q:Z) (a:Act) (hfr:Fr 132 a [(0,tb),(3,b3),(5,.int .i64 (n:Nat))]) (hb:Blk w b3 121 #[k0,k1,k2,k3,.int .i64 o.n,o.epoch,o.kind,o.site,o.client,o.seq,.string o.name,o.size,.slice hA hn hc]) (hn0:1<=n/\n<=4096) (hr:IntKind.i64.wrap ((IntKind.u64.wrap k2).tmod (n:Nat))=(s:Nat)) (hr2:IntKind.u64.wrap ((IntKind.u64.wrap k2).tmod (n:Nat))=(IntKind.u64.wrap k2).tmod (n:Nat))
 (hQ:∀ a',Fr 132 a' [(0,tb),(3,b3),(6,.int .i64 (s:Nat))]->Q .normal a' w):(part [1,1,1,0,1,1,1,1,1,1,1,1,0,0] (codeOf turnF)).wp prog Q a w:=by
 have hnz:¬ (n:Int)=0:=by omega
 have hnw:IntKind.u64.wrap (n:Nat)=(n:Nat):=IntWalk.u64_in _ (by omega)
 obtain⟨HB,HR,HR2,HQ,HN,HZ⟩:=J6 hb hr hr2 hQ hnw hnz
 clear hb hr hr2 hQ hn0 hnw hnz
 obtain⟨d,z0,f0,f3,f5,-⟩:=hfr
 have z:=J z0
 have t0:=of_at f0
 have t3:=of_at f3
 have t5:=of_at f5
 clear z0 f0 f3 f5
 refine wp_region_ops (id:=5) kr ?_
 conv=>arg 4;whnf
 refine wpl_v 21 (.pointer (some ⟨b3,2,none⟩)) (by rw [z.out];decide) fun a nx=>?_
 obtain⟨dd,zz,t21,oo⟩:=nx
 replace d:=dd.trans d
 replace z:=J (zz.trans z.out)
 replace t0:=(oo 0 (by decide)).trans t0
 replace t3:=(oo 3 (by decide)).trans t3
 replace t5:=(oo 5 (by decide)).trans t5
 clear dd zz oo
 conv=>arg 4;whnf
 have d2:=HB.out.c1 2
 refine wpl_v 22 (.int .i64 k2) (by rw [z.out];decide) fun a nx=>?_
 obtain⟨dd,zz,t22,oo⟩:=nx
 replace d:=dd.trans d
 replace z:=J (zz.trans z.out)
 replace t0:=(oo 0 (by decide)).trans t0
 replace t3:=(oo 3 (by decide)).trans t3
 replace t5:=(oo 5 (by decide)).trans t5
 clear dd zz oo t21
 conv=>arg 4;whnf
 refine wpl_v 23 (.int .u64 (IntKind.u64.wrap k2)) (by rw [z.out];decide) fun a nx=>?_
 obtain⟨dd,zz,t23,oo⟩:=nx
 replace d:=dd.trans d
 replace z:=J (zz.trans z.out)
 replace t0:=(oo 0 (by decide)).trans t0
 replace t3:=(oo 3 (by decide)).trans t3
 replace t5:=(oo 5 (by decide)).trans t5
 clear dd zz oo t22
 conv=>arg 4;whnf
 refine wpl_v 24 (.int .i64 (n:Nat)) (by rw [z.out];decide) fun a nx=>?_
 obtain⟨dd,zz,t24,oo⟩:=nx
 replace d:=dd.trans d
 replace z:=J (zz.trans z.out)
 replace t0:=(oo 0 (by decide)).trans t0
 replace t3:=(oo 3 (by decide)).trans t3
 replace t23:=(oo 23 (by decide)).trans t23
 clear dd zz oo t5
 conv=>arg 4;whnf
 refine wpl_v 25 (.int .u64 (n:Nat)) (by rw [z.out];decide) (h:=by unfold execOp;go_simp;all_goals first|rfl|exact HN.out|omega) fun a nx=>?_
 obtain⟨dd,zz,t25,oo⟩:=nx
 replace d:=dd.trans d
 replace z:=J (zz.trans z.out)
 replace t0:=(oo 0 (by decide)).trans t0
 replace t3:=(oo 3 (by decide)).trans t3
 replace t23:=(oo 23 (by decide)).trans t23
 clear dd zz oo t24
 conv=>arg 4;whnf
 refine wpl_v 26 (.int .u64 ((IntKind.u64.wrap k2).tmod (n:Nat))) (by rw [z.out];decide) (h:=by have q0:=HZ.out;unfold execOp;go_simp;all_goals first|rfl|exact HR2.out|omega) fun a nx=>?_
 obtain⟨dd,zz,t26,oo⟩:=nx
 replace d:=dd.trans d
 replace z:=J (zz.trans z.out)
 replace t0:=(oo 0 (by decide)).trans t0
 replace t3:=(oo 3 (by decide)).trans t3
 clear dd zz oo t23 t25
 conv=>arg 4;whnf
 refine wpl_v 27 (.int .i64 (s:Nat)) (by rw [z.out];decide) (h:=by unfold execOp;go_simp;all_goals first|rfl|exact HR.out|exact HR2.out|omega) fun a nx=>?_
 obtain⟨dd,zz,t27,oo⟩:=nx
 replace d:=dd.trans d
 replace z:=J (zz.trans z.out)
 replace t0:=(oo 0 (by decide)).trans t0
 replace t3:=(oo 3 (by decide)).trans t3
 clear dd zz oo t26
 conv=>arg 4;whnf
 refine wpl_v 6 (.int .i64 (s:Nat)) (by rw [z.out];decide) fun a nx=>?_
 obtain⟨dd,zz,t6,oo⟩:=nx
 replace d:=dd.trans d
 replace z:=J (zz.trans z.out)
 replace t0:=(oo 0 (by decide)).trans t0
 replace t3:=(oo 3 (by decide)).trans t3
 clear dd zz oo t27
 conv=>arg 4;whnf
 exact HQ.out a ⟨d,z.out,at_of t0,at_of t3,at_of t6,trivial⟩
theorem tn2 (Q:Z) (a:Act) (hfr:Fr 132 a [(0,tb),(3,b3),(4,.int .i64 (s:Nat))]) (hb:Blk w b3 121 #[k0,k1,k2,k3,.int .i64 o.n,o.epoch,o.kind,o.site,o.client,o.seq,.string o.name,o.size,.slice hA hn hc])
 (hQ:∀ a',Fr 132 a' [(0,tb),(3,b3),(4,.int .i64 (s:Nat)),(13,k0)]->Q .normal a' w):(part [1,1,0] (codeOf turnF)).wp prog Q a w:=by
 have d0:=hb.c1 0
 exact EY26
theorem tn7 (Q:Z) (a:Act) (hfr:Fr 132 a [(0,tb),(3,b3),(4,.int .i64 (s:Nat)),(13,k0)])
 (hQ:∀ a',Fr 132 a' [(0,tb),(3,b3),(4,.int .i64 (s:Nat)),(13,k0),(49,.bool (k0==1))]->Q .normal a' w):(part [1,1,1,0,0] (codeOf turnF)).wp prog Q a w:=by
 exact EY2
theorem tn11 (Q:Z) (a:Act) (hfr:Fr 132 a [(0,tb),(3,b3),(4,.int .i64 (s:Nat)),(13,k0)])
 (hQ:∀ a',Fr 132 a' [(0,tb),(3,b3),(4,.int .i64 (s:Nat)),(13,k0),(76,.bool (k0==2))]->Q .normal a' w):(part [1,1,1,0,1,1,0] (codeOf turnF)).wp prog Q a w:=by
 exact EY2
theorem tn14 (Q:Z) (a:Act) (hfr:Fr 132 a [(0,tb),(3,b3),(4,.int .i64 (s:Nat)),(13,k0)])
 (hQ:∀ a',Fr 132 a' [(0,tb),(3,b3),(4,.int .i64 (s:Nat)),(13,k0),(102,.bool (k0==3))]->Q .normal a' w):(part [1,1,1,0,1,1,1,1,0] (codeOf turnF)).wp prog Q a w:=by
 exact EY2
theorem tn8 {E:Int} (Q:Z) (a:Act) (hfr:Fr 132 a [(0,tb),(4,.int .i64 (s:Nat))]) (h2:w.cell? ⟨tb,2,none⟩=some (.int .i64 E))
 (hQ:∀ a',Fr 132 a' [(0,tb),(4,.int .i64 (s:Nat)),(55,(decide (E<16)))]->Q .normal a' w):(part [1,1,1,0,1,0,0] (codeOf turnF)).wp prog Q a w:=by
 exact EY2
theorem tn9 {E:Int} (Q:Z) (a:Act) (hfr:Fr 132 a [(0,tb),(4,.int .i64 (s:Nat))]) (h2:w.cell? ⟨tb,2,none⟩=some (.int .i64 E)) (hz:w.frozen? ⟨tb,2,none⟩=false) (he:0<=E/\E<16)
 (hQ:∀ a',Fr 132 a' [(0,tb),(4,.int .i64 (s:Nat))]->Q .normal a' (w.setCell ⟨tb,2,none⟩ (.int .i64 (E+1)))):(part [1,1,1,0,1,0,1,0,0] (codeOf turnF)).wp prog Q a w:=by
 have hw:wrap64 (E+1)=E+1:=IntWalk.wrap64_in _ (by omega)
 exact EY2
theorem tn12 (Q:Z) (a:Act) (hfr:Fr 132 a [(0,tb),(3,b3),(4,.int .i64 (s:Nat))]) (hb:Blk w b3 121 #[k0,k1,k2,k3,.int .i64 o.n,o.epoch,o.kind,o.site,o.client,o.seq,.string o.name,o.size,.slice hA hn hc])
 (hQ:∀ a' w',Fr 132 a' [(0,tb),(3,b3),(4,.int .i64 (s:Nat))]->Blk w' b3 121 #[k0,k1,k2,k3,.int .i64 0,.int .i64 0,o.kind,.int .i64 0,o.client,o.seq,.string o.name,o.size,.slice hA hn hc]->Below b3 w w'->Q .normal a' w'):(part [1,1,1,0,1,1,1,0,0] (codeOf turnF)).wp prog Q a w:=by
 have d4:=hb.c1 4
 have d5:=hb.c1 5
 have d7:=hb.c1 7
 have f4:=hb.frozen 4
 have f5:=hb.frozen 5
 have f7:=hb.frozen 7
 have hk:Blk (((w.setCell ⟨b3,4,none⟩ (.int .i64 0)).setCell ⟨b3,5,none⟩ (.int .i64 0)).setCell ⟨b3,7,none⟩ (.int .i64 0)) b3 121 #[k0,k1,k2,k3,.int .i64 0,.int .i64 0,o.kind,.int .i64 0,o.client,o.seq,.string o.name,o.size,.slice hA hn hc]:=((hb.set_ 4 _).set_ 5 _).set_ 7 _
 have hl:Below b3 w (((w.setCell ⟨b3,4,none⟩ (.int .i64 0)).setCell ⟨b3,5,none⟩ (.int .i64 0)).setCell ⟨b3,7,none⟩ (.int .i64 0)):=(((Below.refl _ _).setCell (p:=⟨b3,4,none⟩) (Nat.le_refl _) _).setCell (p:=⟨b3,5,none⟩) (Nat.le_refl _) _).setCell (p:=⟨b3,7,none⟩) (Nat.le_refl _) _
 obtain⟨HQ,HK,HL⟩:=J3 hQ hk hl
 clear hQ hk hl hb
 refine gg hfr fun t=>?_
 go_wp2_with fail
 exact HQ.out _ _ ff HK.out HL.out
theorem tn15 (Q:Z) (a:Act) (hfr:Fr 132 a [(0,tb),(3,b3),(4,.int .i64 (s:Nat))]) (hb:Blk w b3 121 #[k0,k1,k2,k3,.int .i64 o.n,o.epoch,o.kind,o.site,o.client,o.seq,.string o.name,o.size,.slice hA hn hc]) (R:Bool->World->Prop)
 (hS:Calls prog 104 #[.pointer (some ⟨tb,0,none⟩),.int .i64 (s:Nat),k2,k3] w fun e w'=>∃ d,e=.returned (.bool d)/\R d w')
 (hQ:∀ a' w' d,Fr 132 a' [(0,tb),(4,.int .i64 (s:Nat)),(110,.bool d)]->R d w'->Q .normal a' w'):(part [1,1,1,0,1,1,1,1,1,0,0] (codeOf turnF)).wp prog Q a w:=by
 have d2:=hb.c1 2
 have d3:=hb.c1 3
 obtain⟨HQ,HS⟩:=J2 hQ hS
 clear hQ hS hb
 refine gg hfr fun t=>?_
 go_wp2_with fail
 refine HS.out.mono ?_
 rintro e w' ⟨d,rfl,hr⟩
 have HR:=J hr
 clear hr d2 d3
 go_wp2_with fail
 exact HQ.out _ _ d ff HR.out
theorem tn3 {sA:O} {sc:Nat} (Q:Z) (a:Act) (hfr:Fr 132 a [(0,tb),(3,b3),(4,.int .i64 (s:Nat))]) (h3:w.cell? ⟨tb,3,none⟩=some (.slice sA n sc))
 (hQ:∀ a',Fr 132 a' [(0,tb),(3,b3),(5,.int .i64 (n:Nat))]->Q .normal a' w):(part [1,1,1,0,1,1,1,1,1,1,0] (codeOf turnF)).wp prog Q a w:=by
 exact EY2
theorem tn4 (Q:Z) (a:Act) (hfr:Fr 132 a [(0,tb),(3,b3),(5,.int .i64 (n:Nat))])
 (hQ:∀ a',Fr 132 a' [(0,tb),(3,b3),(5,.int .i64 (n:Nat)),(20,(decide (0<n)))]->Q .normal a' w):(part [1,1,1,0,1,1,1,1,1,1,1,0] (codeOf turnF)).wp prog Q a w:=by
 exact EY2
end
end Go.Proofs.Ytaipgdhdfpemcaa
