/- THE WALKS OF THE LANE, part 46. -/
import Derived.Test.YtaipgdhdfpemcaaF31
import Derived.Test.YtaipgdhdfpemcaaF32
import Derived.Test.YtaipgdhdfpemcaaFX
namespace Go.Proofs.Ytaipgdhdfpemcaa
set_option linter.all false
open Go.RowKit Go.Proofs.Try
set_option maxRecDepth 100000
set_option maxHeartbeats 4000000
theorem rholes_any (up:Int) (B:Nat) (A:O) (n c:Nat) (l:List Int) (w:World) (h:Reads w B 1 A n (intV .i64 l)) (hn:n<=140737488351232) :
 Calls prog 101 #[.slice A n c,up] w fun e w'=>e=.returned (.bool (riseB up 0 l))/\w=w':=by
 have hlen:=ints_len h
 obtain⟨HR,HL⟩:=J2 h hlen
 clear h hlen
 go_enter func101,ntmps101
 go_wp2_with fail
 go_loop [5,6] (fun s i=>∃ (k:Nat) (m:Int),k<=n/\s=.int .i64 m/\i=.int .i64 k/\riseB up 0 l=riseB up m (l.drop k)) (fun _ i=>n-(intOf i).toNat)
 case atStart=>exact⟨0,0,by omega,rfl,rfl,rfl⟩
 case round=>
  obtain⟨k,m,hk,rfl,rfl,hrl⟩:=hrel
  have HRL:=J hrl
  clear hrl
  rcases Nat.lt_or_ge k n with hk1|hk1
  ·obtain⟨ad,hA,hcell⟩:=int_at HR.out hk1
   have hkl:k<l.length:=by rw [HL.out];exact hk1
   have hdr:l.drop k=l.getD k 0::l.drop (k+1):=by
    rw [List.drop_eq_getElem_cons hkl]
    simp [List.getD,hkl]
   obtain⟨x,hx⟩:∃ x,x=l.getD k 0:=⟨_,rfl⟩
   rw [<-hx] at hcell hdr
   have HDR:=J hdr
   clear hx hdr
   subst hA
   by_cases h1:x<=m
   ·have d1:decide (x<=m)=true:=decide_eq_true h1
    have H1:=J h1
    clear h1
    go_wp2
    go_ret
    exact⟨ret_bool' (by have h1:=H1.out;rw [HRL.out,HDR.out];simp [riseB,show ¬ m<x by omega]),rfl⟩
   ·have d1:decide (x<=m)=false:=decide_eq_false h1
    have H1:=J h1
    clear h1
    by_cases h2:up<x
    ·have d2:decide (up<x)=true:=decide_eq_true h2
     have H2:=J h2
     clear h2
     go_wp2
     go_ret
     exact⟨ret_bool' (by have h2:=H2.out;rw [HRL.out,HDR.out];simp [riseB,show ¬ x<=up by omega]),rfl⟩
    ·have d2:decide (up<x)=false:=decide_eq_false h2
     have H2:=J h2
     clear h2
     go_wp2
     go_round
     case rel=>exact⟨k+1,x,by omega,rfl,by go_num,by have h1:=H1.out;have h2:=H2.out;rw [HRL.out,HDR.out];simp [riseB,show m<x by omega,show x<=up by omega]⟩
     case measure=>simp [intOf];omega
  ·obtain rfl:n=k:=by omega
   exact Y104
theorem rplace_any (n e:Int) (w:World) :
 Calls prog 100 #[.agg #[n,e]] w fun x w'=>x=.returned (.bool (placeB n e))/\Below w w w':=by
 have HB:=J ((Below.refl w.heap.size w).alloc (Nat.le_refl _) (.cells #[n,e] 26))
 go_enter func100,ntmps100
 by_cases q0:0<=n
 ·have t0:decide (0<=n)=true:=decide_eq_true q0
  have Q0:=J q0
  clear q0
  by_cases q1:n<=80
  ·have t1:decide (n<=80)=true:=decide_eq_true q1
   have Q1:=J q1
   clear q1
   by_cases q2:0<=e
   ·have t2:decide (0<=e)=true:=decide_eq_true q2
    have Q2:=J q2
    clear q2
    by_cases q3:e<=16
    ·have t3:decide (e<=16)=true:=decide_eq_true q3
     have Q3:=J q3
     clear q3
     obtain⟨bn,hbn⟩:∃ b,b=(n==0):=⟨_,rfl⟩
     obtain⟨be,hbe⟩:∃ b,b=(e==0):=⟨_,rfl⟩
     have tn:=hbn.symm
     have te:=hbe.symm
     obtain⟨N0,E0⟩:=J2 tn te
     clear hbn hbe
     cases bn<;>cases be
     ·go_wp2_with fail
      exact Y81
     ·go_wp2_with fail
      exact Y81
     ·go_wp2_with fail
      exact Y81
     ·go_wp2_with fail
      exact Y81
    ·have t3:decide (e<=16)=false:=decide_eq_false q3
     have Q3:=J t3
     clear q3
     go_wp2_with fail
     go_ret
     exact⟨ret_bool' (by simp only [placeB,Q3.out,Bool.and_false,Bool.false_and]),HB.out⟩
   ·have t2:decide (0<=e)=false:=decide_eq_false q2
    have Q2:=J t2
    clear q2
    go_wp2_with fail
    go_ret
    exact⟨ret_bool' (by simp only [placeB,Q2.out,Bool.and_false,Bool.false_and]),HB.out⟩
  ·have t1:decide (n<=80)=false:=decide_eq_false q1
   have Q1:=J t1
   clear q1
   go_wp2_with fail
   go_ret
   exact⟨ret_bool' (by simp only [placeB,Q1.out,Bool.and_false,Bool.false_and]),HB.out⟩
 ·have t0:decide (0<=n)=false:=decide_eq_false q0
  have Q0:=J t0
  clear q0
  go_wp2_with fail
  go_ret
  exact⟨ret_bool' (by simp only [placeB,Q0.out,Bool.false_and]),HB.out⟩
def c34 (epoch atN atE whN whE:Int):Bool:=decide (0<=epoch)&&decide (epoch<=16)&&placeB atN atE&&placeB whN whE
section
variable {good:Bool} {data:ByteArray} {atE atN epoch whE whN:Int} {ec hc oc on pc:Nat} {S:Nat->Prop} {eA hA oA pA:O}
theorem c34_eq:((((decide (epoch<0))||(decide (16<epoch)))||(!(placeB atN atE)))||(!(placeB whN whE))) = !(c34 epoch atN atE whN whE):=by
 have h1:decide (epoch<0) = !decide (0<=epoch):=by by_cases h:epoch<0<;>simp [h];omega
 have h2:decide (16<epoch) = !decide (epoch<=16):=by by_cases h:16<epoch<;>simp [h];omega
 rw [h1,h2]
 simp [c34,Bool.not_and]
theorem right34 (w:World) (Q:Z) (a:Act) (mb g:Nat) (hfr:Fr 391 a [(1,mb),(4,.map (some g))]) (h:NamedIs w g [72,119,97,103,69]) (hm:Blk w mb 30 (mailC 10 0 0 0 0 good eA 0 ec data hA 0 hc epoch 0 atN atE whN whE oA on oc pA 0 pc)) (hQ:∀ a' w',Fr 391 a' [(1,mb),(260,(!(c34 epoch atN atE whN whE)))]->Blk w' mb 30 (mailC 10 0 0 0 0 good eA 0 ec data hA 0 hc epoch 0 atN atE whN whE oA on oc pA 0 pc)->Below w w w'->Q .normal a' w') :
 (part [1,1,1,1,1,1,0,0] (codeOf rightF)).wp prog Q a w:=by
 have ha1:a.eval (.tmp 1)=.pointer (some ⟨mb,0,none⟩):=eval_of hfr.2.2.1
 have ha4:a.eval (.tmp 4)=.map (some g):=eval_of hfr.2.2.2.1
 obtain⟨HQ,HM,HNM⟩:=J3 hQ hm h
 clear hQ h hm
 obtain⟨c0,hc0⟩:∃ x,x=((decide (epoch<0))):=⟨_,rfl⟩
 obtain⟨c1,hc1⟩:∃ x,x=((decide (16<epoch))):=⟨_,rfl⟩
 obtain⟨c2,hc2⟩:∃ x,x=((c0||c1)):=⟨_,rfl⟩
 obtain⟨c3,hc3⟩:∃ x,x=((!(placeB atN atE))):=⟨_,rfl⟩
 obtain⟨c4,hc4⟩:∃ x,x=((c2||c3)):=⟨_,rfl⟩
 obtain⟨c5,hc5⟩:∃ x,x=((!(placeB whN whE))):=⟨_,rfl⟩
 obtain⟨c6,hc6⟩:∃ x,x=((c4||c5)):=⟨_,rfl⟩
 refine wp_region_named (c:=(part [1,1,1,1,1,1,0,0] (codeOf rightF))) (id:=34) kr (fun i v W=>match i with|0=>v=.map (some g)|1=>v=.bool false|2=>v=.bool false|3=>v=undef|4=>v=undef|5=>v=undef|6=>v=undef|7=>v=undef|8=>v=undef|9=>v=undef|10=>v=undef|11=>v=.bool false|12=>v=.bool false|13=>v=.pointer (some ⟨mb,2,none⟩)|14=>v=.int .i64 0|15=>v=.bool false|16=>v=.bool false|17=>v=.bool false|18=>v=.pointer (some ⟨mb,2,none⟩)|19=>v=.int .i64 0|20=>v=.bool false|21=>v=.bool false|22=>v=.bool false|23=>v=.pointer (some ⟨mb,3,none⟩)|24=>v=.int .i64 0|25=>v=.bool false|26=>v=.bool false|27=>v=.bool false|28=>v=.pointer (some ⟨mb,3,none⟩)|29=>v=.int .i64 0|30=>v=.bool false|31=>v=.bool false|32=>v=.bool false|33=>v=.pointer (some ⟨mb,4,none⟩)|34=>v=.int .i64 0|35=>v=.bool false|36=>v=.bool false|37=>v=.bool false|38=>v=.pointer (some ⟨mb,4,none⟩)|39=>v=.int .i64 0|40=>v=.bool false|41=>v=.bool false|42=>v=.bool false|43=>v=.pointer (some ⟨mb,10,none⟩)|44=>v=.int .i64 0|45=>v=.bool false|46=>v=.bool false|47=>v=.bool false|48=>v=.pointer (some ⟨mb,10,none⟩)|49=>v=.int .i64 0|50=>v=.bool false|51=>v=.bool false|52=>v=.bool false|53=>v=.pointer (some ⟨mb,9,none⟩)|54=>v=epoch|55=>v=.bool c0|56=>v=.bool c0|57=>v=.bool c0|58=>v=(bif c0 then undef else .pointer (some ⟨mb,9,none⟩))|59=>v=(bif c0 then undef else .int .i64 epoch)|60=>v=(bif c0 then undef else .bool c1)|61=>v=.bool c2|62=>v=.bool c2|63=>v=(bif c2 then undef else .pointer (some ⟨mb,11,none⟩))|64=>v=(bif c2 then undef else .agg #[atN,atE])|65=>v=(bif c2 then undef else .bool (placeB atN atE))|66=>v=(bif c2 then undef else .bool c3)|67=>v=.bool c4|68=>v=.bool c4|69=>v=(bif c4 then undef else .pointer (some ⟨mb,13,none⟩))|70=>v=(bif c4 then undef else .agg #[whN,whE])|71=>v=(bif c4 then undef else .bool (placeB whN whE))|72=>v=(bif c4 then undef else .bool c5)|73=>v=.bool c6|_=>True) (fun W=>Blk W mb 30 (mailC 10 0 0 0 0 good eA 0 ec data hA 0 hc epoch 0 atN atE whN whE oA on oc pA 0 pc)/\Below w w W) (fun W W'=>True) ?hsz ?hG ?hmono ?hstep ?hend
 case hsz=>rw [hfr.2.1];kernel_rfl
 case hG=>exact⟨HM.out,Below.refl _ _⟩
 case hmono=>exact fun _ _ _ _ _ h=>h
 case hstep=>
  intro i o F U W ho hGW hat hoff hp
  have hrefl:=fun _:World=>trivial
  have:=act_tmp ((hoff 1 kd).trans ha1)
  have:=act_tmp ((hoff 4 kd).trans ha4)
  obtain⟨qa,qb⟩:=J2 hat hp
  clear hat hoff hp
  match i with
   | 0=>obtain rfl:=o1 ho;exact vna
   | 1=>
    obtain rfl:=o1 ho;have:=nx 0 187
    have l:(Instr.lookup 147 (.map (some g)) (.int .u8 116) false).run prog W=.ok (.bool false) W:=(HNM.out.below hGW.2 HNM.out.lt).look 116 false (named_at (116,false) (by simp)).2 (named_at (116,false) (by simp)).1
    exact vna
   | 2=>obtain rfl:=o1 ho;have:=nx 1 188;exact vna
   | 3|4|5|6|10=>obtain rfl:=o1 ho;exact ofx 2 189
   | 7|8|9=>obtain rfl:=o1 ho;exact ufx 6 193
   | 11=>obtain rfl:=o1 ho;have:=nx 2 189;exact vna
   | 12=>obtain rfl:=o1 ho;have:=nx 11 198;exact vna
   | 13=>obtain rfl:=o1 ho;refine onx 12 199 ?_;exact vla
   | 14=>obtain rfl:=o1 ho;refine onx 12 199 ?_;have:=nx 13 200;have d:=hGW.1.c1 2;exact vla
   | 15=>obtain rfl:=o1 ho;refine onx 12 199 ?_;have:=nx 14 201;exact vla
   | 16=>obtain rfl:=o1 ho;have:=nx 12 199;have:=nx 15 202;exact vna
   | 17=>obtain rfl:=o1 ho;have:=nx 16 203;exact vna
   | 18=>obtain rfl:=o1 ho;refine onx 17 204 ?_;exact vla
   | 19=>obtain rfl:=o1 ho;refine onx 17 204 ?_;have:=nx 18 205;have d:=hGW.1.c1 2;exact vla
   | 20=>obtain rfl:=o1 ho;refine onx 17 204 ?_;have:=nx 19 206;exact vla
   | 21=>obtain rfl:=o1 ho;have:=nx 17 204;have:=nx 20 207;exact vna
   | 22=>obtain rfl:=o1 ho;have:=nx 21 208;exact vna
   | 23=>obtain rfl:=o1 ho;refine onx 22 209 ?_;exact vla
   | 24=>obtain rfl:=o1 ho;refine onx 22 209 ?_;have:=nx 23 210;have d:=hGW.1.c1 3;exact vla
   | 25=>obtain rfl:=o1 ho;refine onx 22 209 ?_;have:=nx 24 211;exact vla
   | 26=>obtain rfl:=o1 ho;have:=nx 22 209;have:=nx 25 212;exact vna
   | 27=>obtain rfl:=o1 ho;have:=nx 26 213;exact vna
   | 28=>obtain rfl:=o1 ho;refine onx 27 214 ?_;exact vla
   | 29=>obtain rfl:=o1 ho;refine onx 27 214 ?_;have:=nx 28 215;have d:=hGW.1.c1 3;exact vla
   | 30=>obtain rfl:=o1 ho;refine onx 27 214 ?_;have:=nx 29 216;exact vla
   | 31=>obtain rfl:=o1 ho;have:=nx 27 214;have:=nx 30 217;exact vna
   | 32=>obtain rfl:=o1 ho;have:=nx 31 218;exact vna
   | 33=>obtain rfl:=o1 ho;refine onx 32 219 ?_;exact vla
   | 34=>obtain rfl:=o1 ho;refine onx 32 219 ?_;have:=nx 33 220;have d:=hGW.1.c1 4;exact vla
   | 35=>obtain rfl:=o1 ho;refine onx 32 219 ?_;have:=nx 34 221;exact vla
   | 36=>obtain rfl:=o1 ho;have:=nx 32 219;have:=nx 35 222;exact vna
   | 37=>obtain rfl:=o1 ho;have:=nx 36 223;exact vna
   | 38=>obtain rfl:=o1 ho;refine onx 37 224 ?_;exact vla
   | 39=>obtain rfl:=o1 ho;refine onx 37 224 ?_;have:=nx 38 225;have d:=hGW.1.c1 4;exact vla
   | 40=>obtain rfl:=o1 ho;refine onx 37 224 ?_;have:=nx 39 226;exact vla
   | 41=>obtain rfl:=o1 ho;have:=nx 37 224;have:=nx 40 227;exact vna
   | 42=>obtain rfl:=o1 ho;have:=nx 41 228;exact vna
   | 43=>obtain rfl:=o1 ho;refine onx 42 229 ?_;exact vla
   | 44=>obtain rfl:=o1 ho;refine onx 42 229 ?_;have:=nx 43 230;have d:=hGW.1.c1 10;exact vla
   | 45=>obtain rfl:=o1 ho;refine onx 42 229 ?_;have:=nx 44 231;exact vla
   | 46=>obtain rfl:=o1 ho;have:=nx 42 229;have:=nx 45 232;exact vna
   | 47=>obtain rfl:=o1 ho;have:=nx 46 233;exact vna
   | 48=>obtain rfl:=o1 ho;refine onx 47 234 ?_;exact vla
   | 49=>obtain rfl:=o1 ho;refine onx 47 234 ?_;have:=nx 48 235;have d:=hGW.1.c1 10;exact vla
   | 50=>obtain rfl:=o1 ho;refine onx 47 234 ?_;have:=nx 49 236;exact vla
   | 51=>obtain rfl:=o1 ho;have:=nx 47 234;have:=nx 50 237;exact vna
   | 52=>obtain rfl:=o1 ho;have:=nx 51 238;exact vna
   | 53=>obtain rfl:=o1 ho;refine onx 52 239 ?_;exact vla
   | 54=>obtain rfl:=o1 ho;refine onx 52 239 ?_;have:=nx 53 240;have d:=hGW.1.c1 9;exact vla
   | 55=>obtain rfl:=o1 ho;rw [hc0];refine onx 52 239 ?_;have:=nx 54 241;exact vla
   | 56=>obtain rfl:=o1 ho;have:=nx 52 239;have:=nx 55 242;exact vna
   | 57=>obtain rfl:=o1 ho;have:=nx 56 243;exact vna
   | 58=>
    obtain rfl:=o1 ho
    cases q0:c0 with
    | true=>exact ofy 57 244
    | false=>refine ony 57 244 ?_;exact vla
   | 59=>
    obtain rfl:=o1 ho
    cases q0:c0 with
    | true=>exact ofy 57 244
    | false=>refine ony 57 244 ?_;have:=nY 58 245;have d:=hGW.1.c1 9;exact vla
   | 60=>
    obtain rfl:=o1 ho;rw [hc1]
    cases q0:c0 with
    | true=>exact ofy 57 244
    | false=>refine ony 57 244 ?_;have:=nY 59 246;exact vla
   | 61=>
    obtain rfl:=o1 ho;rw [hc2];have t244:=nx 57 244
    cases qp:c0 with
    | true=>rw [qp] at t244;exact vna
    | false=>rw [qp] at t244;have:=nZ 60 247;exact vna
   | 62=>obtain rfl:=o1 ho;have:=nx 61 248;exact vna
   | 63=>
    obtain rfl:=o1 ho
    cases q0:c2 with
    | true=>exact ofy 62 249
    | false=>refine ony 62 249 ?_;exact vla
   | 64=>
    obtain rfl:=o1 ho
    cases q0:c2 with
    | true=>exact ofy 62 249
    | false=>refine ony 62 249 ?_;have:=nY 63 250;have d:=hGW.1.cell 11;have d':=hGW.1.cell 12;simp at d d';exact vla
   | 65=>
    obtain rfl:=o1 ho
    cases q0:c2 with
    | true=>exact ofy 62 249
    | false=>
     refine ony 62 249 ?_;have:=nY 64 251
     refine wp_enter' 100 #[.agg #[atN,atE]] (by unfold execOp;go_simp) ?_
     refine (rplace_any atN atE W).mono ?_
     exact Y59
   | 66=>
    obtain rfl:=o1 ho;rw [hc3]
    cases q0:c2 with
    | true=>exact ofy 62 249
    | false=>refine ony 62 249 ?_;have:=nY 65 252;exact vla
   | 67=>
    obtain rfl:=o1 ho;rw [hc4];have t249:=nx 62 249
    cases qp:c2 with
    | true=>rw [qp] at t249;exact vna
    | false=>rw [qp] at t249;have:=nZ 66 253;exact vna
   | 68=>obtain rfl:=o1 ho;have:=nx 67 254;exact vna
   | 69=>
    obtain rfl:=o1 ho
    cases q0:c4 with
    | true=>exact ofy 68 255
    | false=>refine ony 68 255 ?_;exact vla
   | 70=>
    obtain rfl:=o1 ho
    cases q0:c4 with
    | true=>exact ofy 68 255
    | false=>refine ony 68 255 ?_;have:=nY 69 256;have d:=hGW.1.cell 13;have d':=hGW.1.cell 14;simp at d d';exact vla
   | 71=>
    obtain rfl:=o1 ho
    cases q0:c4 with
    | true=>exact ofy 68 255
    | false=>
     refine ony 68 255 ?_;have:=nY 70 257
     refine wp_enter' 100 #[.agg #[whN,whE]] (by unfold execOp;go_simp) ?_
     refine (rplace_any whN whE W).mono ?_
     exact Y59
   | 72=>
    obtain rfl:=o1 ho;rw [hc5]
    cases q0:c4 with
    | true=>exact ofy 68 255
    | false=>refine ony 68 255 ?_;have:=nY 71 258;exact vla
   | 73=>
    obtain rfl:=o1 ho;rw [hc6];have t255:=nx 68 255
    cases qp:c4 with
    | true=>rw [qp] at t255;exact vna
    | false=>rw [qp] at t255;have:=nZ 72 259;exact vna
   | i+74=>exact (none_past (n:=74) kr ho).elim
 case hend=>
  intro U W hGW hV
  have hx:U 73=.bool c6:=hV 73 kd
  refine HQ.out _ _ ⟨?_,?_,?_,?_,trivial⟩ hGW.1 hGW.2
  ·rw [putU_defers];exact hfr.1
  ·rw [putU_size];exact hfr.2.1
  ·rw [putU_old 1 kd];exact hfr.2.2.1
  ·rw [putU_get (by rw [hfr.2.1];kernel_rfl) 73 260 kd kr,hx,hc6,hc5,hc4,hc3,hc2,hc1,hc0,c34_eq]
theorem right36 (w:World) (Q:Z) (a:Act) (mb:Nat) (holes:List Int) (hfr:Fr 391 a [(1,mb)]) (hm:Blk w mb 30 (mailC 10 0 0 0 0 good eA 0 ec data hA 0 hc epoch 0 atN atE whN whE oA on oc pA 0 pc)) (ho:IntIs w S oA on oc holes) (hz:on<=140737488351232) (hQ:∀ a' w',Fr 391 a' [(1,mb),(292,(!(riseB whN 0 holes)))]->Blk w' mb 30 (mailC 10 0 0 0 0 good eA 0 ec data hA 0 hc epoch 0 atN atE whN whE oA on oc pA 0 pc)->Below w w w'->Q .normal a' w') :
 (part [1,1,1,1,1,1,1,0,0] (codeOf rightF)).wp prog Q a w:=by
 have ha1:a.eval (.tmp 1)=.pointer (some ⟨mb,0,none⟩):=eval_of hfr.2.2.1
 obtain⟨HQ,HM,HO,HZ⟩:=J4 hQ hm ho hz
 clear hQ hm ho hz
 obtain⟨c0,hc0⟩:∃ x,x=((!(riseB whN 0 holes))):=⟨_,rfl⟩
 refine wp_region_named (c:=(part [1,1,1,1,1,1,1,0,0] (codeOf rightF))) (id:=36) kr (fun i v W=>match i with|0=>v=.pointer (some ⟨mb,6,none⟩)|1=>v=.slice eA 0 ec|2=>v=.int .i64 0|3=>v=.bool false|4=>v=.bool false|5=>v=mb|6=>v=.int .i64 10|7=>v=.bool false|8=>v=.bool false|9=>v=undef|10=>v=undef|11=>v=undef|12=>v=undef|13=>v=undef|14=>v=undef|15=>v=undef|16=>v=.bool false|17=>v=.bool false|18=>v=.bool false|19=>v=mb|20=>v=.int .i64 10|21=>v=.bool true|22=>v=.bool true|23=>v=.pointer (some ⟨mb,15,none⟩)|24=>v=.slice oA on oc|25=>v=.pointer (some ⟨mb,13,none⟩)|26=>v=.pointer (some ⟨mb,13,none⟩)|27=>v=whN|28=>v=.bool (riseB whN 0 holes)|29=>v=.bool c0|30=>v=.bool c0|31=>v=.bool c0|_=>True) (fun W=>Blk W mb 30 (mailC 10 0 0 0 0 good eA 0 ec data hA 0 hc epoch 0 atN atE whN whE oA on oc pA 0 pc)/\Below w w W) (fun W W'=>True) ?hsz ?hG ?hmono ?hstep ?hend
 case hsz=>rw [hfr.2.1];kernel_rfl
 case hG=>exact⟨HM.out,Below.refl _ _⟩
 case hmono=>exact fun _ _ _ _ _ h=>h
 case hstep=>
  intro i o F U W ho hGW hat hoff hp
  have hrefl:=fun _:World=>trivial
  have:=act_tmp ((hoff 1 kd).trans ha1)
  obtain⟨qa,qb⟩:=J2 hat hp
  clear hat hoff hp
  match i with
   | 0=>obtain rfl:=o1 ho;exact vna
   | 1=>obtain rfl:=o1 ho;have:=nx 0 261;have d:=hGW.1.c1 6;exact vna
   | 2=>obtain rfl:=o1 ho;have:=nx 1 262;exact vna
   | 3=>obtain rfl:=o1 ho;have:=nx 2 263;exact vna
   | 4=>obtain rfl:=o1 ho;have:=nx 3 264;exact vna
   | 5=>obtain rfl:=o1 ho;refine onx 4 265 ?_;exact vla
   | 6=>obtain rfl:=o1 ho;refine onx 4 265 ?_;have:=nx 5 266;have d:=hGW.1.c1 0;exact vla
   | 7=>obtain rfl:=o1 ho;refine onx 4 265 ?_;have:=nx 6 267;exact vla
   | 8=>obtain rfl:=o1 ho;refine onx 4 265 ?_;have:=nx 7 268;exact vla
   | 9|10|11|12|13|14|15=>obtain rfl:=o1 ho;exact ofx 8 269
   | 16=>obtain rfl:=o1 ho;refine onx 4 265 ?_;have:=nx 8 269;exact vla
   | 17=>obtain rfl:=o1 ho;have:=nx 4 265;have:=nx 16 277;exact vna
   | 18=>obtain rfl:=o1 ho;have:=nx 17 278;exact vna
   | 19=>obtain rfl:=o1 ho;refine onx 18 279 ?_;exact vla
   | 20=>obtain rfl:=o1 ho;refine onx 18 279 ?_;have:=nx 19 280;have d:=hGW.1.c1 0;exact vla
   | 21=>obtain rfl:=o1 ho;refine onx 18 279 ?_;have:=nx 20 281;exact vla
   | 22=>obtain rfl:=o1 ho;refine onx 18 279 ?_;have:=nx 21 282;exact vla
   | 23|25=>obtain rfl:=o1 ho;refine onx 22 283 ?_;exact vla
   | 24=>obtain rfl:=o1 ho;refine onx 22 283 ?_;have:=nx 23 284;have d:=hGW.1.c1 15;exact vla
   | 26=>obtain rfl:=o1 ho;refine onx 22 283 ?_;have:=nx 25 286;exact vla
   | 27=>obtain rfl:=o1 ho;refine onx 22 283 ?_;have:=nx 26 287;have d:=hGW.1.c1 13;exact vla
   | 28=>
    obtain rfl:=o1 ho;refine onx 22 283 ?_;have:=nx 24 285;have:=nx 27 288
    refine wp_enter' 101 #[.slice oA on oc,whN] (by unfold execOp;go_simp) ?_
    refine (rholes_any whN _ oA on oc holes W (HO.out.below hGW.2).1.reads HZ.out).mono ?_
    rintro e W' ⟨rfl,rfl⟩
    exact⟨_,rfl,_,rfl,rfl,hGW,trivial⟩
   | 29=>obtain rfl:=o1 ho;rw [hc0];refine onx 22 283 ?_;have:=nx 28 289;exact vla
   | 30=>obtain rfl:=o1 ho;refine onx 18 279 ?_;have:=nx 22 283;have:=nx 29 290;exact vla
   | 31=>obtain rfl:=o1 ho;have:=nx 18 279;have:=nx 30 291;exact vna
   | i+32=>exact (none_past (n:=32) kr ho).elim
 case hend=>
  intro U W hGW hV
  have hx:U 31=.bool c0:=hV 31 kd
  refine HQ.out _ _ ⟨?_,?_,?_,?_,trivial⟩ hGW.1 hGW.2
  ·rw [putU_defers];exact hfr.1
  ·rw [putU_size];exact hfr.2.1
  ·rw [putU_old 1 kd];exact hfr.2.2.1
  ·rw [putU_get (by rw [hfr.2.1];kernel_rfl) 31 292 kd kr,hx,hc0]
end
def c34_9 (epoch site atN atE whN whE:Int):Bool:=decide (0<=site)&&decide (site<=1)&&decide (0<=epoch)&&decide (epoch<=16)&&placeB atN atE&&placeB whN whE
section
variable {good:Bool} {data:ByteArray} {atE atN epoch site whE whN:Int} {ec hc oc on pc pn:Nat} {eA hA oA pA:O}
theorem c34_9_eq:((((((decide (site<0))||(decide (1<site)))||(decide (epoch<0)))||(decide (16<epoch)))||(!(placeB atN atE)))||(!(placeB whN whE))) = !(c34_9 epoch site atN atE whN whE):=by
 have h1:∀ z:Int,decide (z<0) = !decide (0<=z):=fun z=>by by_cases h:z<0<;>simp [h];omega
 have h2:∀ z k:Int,decide (k<z) = !decide (z<=k):=fun z k=>by by_cases h:k<z<;>simp [h];omega
 rw [h1 epoch,h1 site,h2 epoch 16,h2 site 1]
 simp [c34_9,Bool.not_and]
theorem right34_9 (w:World) (Q:Z) (a:Act) (mb g:Nat) (hfr:Fr 391 a [(1,mb),(4,.map (some g))]) (h:NamedIs w g [79,97,115,69]) (hm:Blk w mb 30 (mailC 9 0 0 0 0 good eA 0 ec data hA 0 hc epoch site atN atE whN whE oA on oc pA pn pc)) (hQ:∀ a' w',Fr 391 a' [(1,mb),(260,(!(c34_9 epoch site atN atE whN whE)))]->Blk w' mb 30 (mailC 9 0 0 0 0 good eA 0 ec data hA 0 hc epoch site atN atE whN whE oA on oc pA pn pc)->Below w w w'->Q .normal a' w') :
 (part [1,1,1,1,1,1,0,0] (codeOf rightF)).wp prog Q a w:=by
 have ha1:a.eval (.tmp 1)=.pointer (some ⟨mb,0,none⟩):=eval_of hfr.2.2.1
 have ha4:a.eval (.tmp 4)=.map (some g):=eval_of hfr.2.2.2.1
 obtain⟨HQ,HM,HNM⟩:=J3 hQ hm h
 clear hQ h hm
 obtain⟨c0,hc0⟩:∃ x,x=((decide (site<0))):=⟨_,rfl⟩
 obtain⟨c1,hc1⟩:∃ x,x=((decide (1<site))):=⟨_,rfl⟩
 obtain⟨c2,hc2⟩:∃ x,x=((c0||c1)):=⟨_,rfl⟩
 obtain⟨c3,hc3⟩:∃ x,x=((decide (epoch<0))):=⟨_,rfl⟩
 obtain⟨c4,hc4⟩:∃ x,x=((c2||c3)):=⟨_,rfl⟩
 obtain⟨c5,hc5⟩:∃ x,x=((decide (16<epoch))):=⟨_,rfl⟩
 obtain⟨c6,hc6⟩:∃ x,x=((c4||c5)):=⟨_,rfl⟩
 obtain⟨c7,hc7⟩:∃ x,x=((!(placeB atN atE))):=⟨_,rfl⟩
 obtain⟨c8,hc8⟩:∃ x,x=((c6||c7)):=⟨_,rfl⟩
 obtain⟨c9,hc9⟩:∃ x,x=((!(placeB whN whE))):=⟨_,rfl⟩
 obtain⟨c10,hc10⟩:∃ x,x=((c8||c9)):=⟨_,rfl⟩
 refine wp_region_named (c:=(part [1,1,1,1,1,1,0,0] (codeOf rightF))) (id:=34) kr (fun i v W=>match i with|0=>v=.map (some g)|1=>v=.bool false|2=>v=.bool false|3=>v=undef|4=>v=undef|5=>v=undef|6=>v=undef|7=>v=undef|8=>v=undef|9=>v=undef|10=>v=undef|11=>v=.bool false|12=>v=.bool false|13=>v=.pointer (some ⟨mb,2,none⟩)|14=>v=.int .i64 0|15=>v=.bool false|16=>v=.bool false|17=>v=.bool false|18=>v=.pointer (some ⟨mb,2,none⟩)|19=>v=.int .i64 0|20=>v=.bool false|21=>v=.bool false|22=>v=.bool false|23=>v=.pointer (some ⟨mb,3,none⟩)|24=>v=.int .i64 0|25=>v=.bool false|26=>v=.bool false|27=>v=.bool false|28=>v=.pointer (some ⟨mb,3,none⟩)|29=>v=.int .i64 0|30=>v=.bool false|31=>v=.bool false|32=>v=.bool false|33=>v=.pointer (some ⟨mb,4,none⟩)|34=>v=.int .i64 0|35=>v=.bool false|36=>v=.bool false|37=>v=.bool false|38=>v=.pointer (some ⟨mb,4,none⟩)|39=>v=.int .i64 0|40=>v=.bool false|41=>v=.bool false|42=>v=.bool false|43=>v=.pointer (some ⟨mb,10,none⟩)|44=>v=site|45=>v=.bool c0|46=>v=.bool c0|47=>v=.bool c0|48=>v=(bif c0 then undef else .pointer (some ⟨mb,10,none⟩))|49=>v=(bif c0 then undef else .int .i64 site)|50=>v=(bif c0 then undef else .bool c1)|51=>v=.bool c2|52=>v=.bool c2|53=>v=(bif c2 then undef else .pointer (some ⟨mb,9,none⟩))|54=>v=(bif c2 then undef else .int .i64 epoch)|55=>v=(bif c2 then undef else .bool c3)|56=>v=.bool c4|57=>v=.bool c4|58=>v=(bif c4 then undef else .pointer (some ⟨mb,9,none⟩))|59=>v=(bif c4 then undef else .int .i64 epoch)|60=>v=(bif c4 then undef else .bool c5)|61=>v=.bool c6|62=>v=.bool c6|63=>v=(bif c6 then undef else .pointer (some ⟨mb,11,none⟩))|64=>v=(bif c6 then undef else .agg #[atN,atE])|65=>v=(bif c6 then undef else .bool (placeB atN atE))|66=>v=(bif c6 then undef else .bool c7)|67=>v=.bool c8|68=>v=.bool c8|69=>v=(bif c8 then undef else .pointer (some ⟨mb,13,none⟩))|70=>v=(bif c8 then undef else .agg #[whN,whE])|71=>v=(bif c8 then undef else .bool (placeB whN whE))|72=>v=(bif c8 then undef else .bool c9)|73=>v=.bool c10|_=>True) (fun W=>Blk W mb 30 (mailC 9 0 0 0 0 good eA 0 ec data hA 0 hc epoch site atN atE whN whE oA on oc pA pn pc)/\Below w w W) (fun W W'=>True) ?hsz ?hG ?hmono ?hstep ?hend
 case hsz=>rw [hfr.2.1];kernel_rfl
 case hG=>exact⟨HM.out,Below.refl _ _⟩
 case hmono=>exact fun _ _ _ _ _ h=>h
 case hstep=>
  intro i o F U W ho hGW hat hoff hp
  have hrefl:=fun _:World=>trivial
  have:=act_tmp ((hoff 1 kd).trans ha1)
  have:=act_tmp ((hoff 4 kd).trans ha4)
  obtain⟨qa,qb⟩:=J2 hat hp
  clear hat hoff hp
  match i with
   | 0=>obtain rfl:=o1 ho;exact vna
   | 1=>
    obtain rfl:=o1 ho;have:=nx 0 187
    have l:(Instr.lookup 147 (.map (some g)) (.int .u8 116) false).run prog W=.ok (.bool false) W:=(HNM.out.below hGW.2 HNM.out.lt).look 116 false (named9_at (116,false) (by simp)).2 (named9_at (116,false) (by simp)).1
    exact vna
   | 2=>obtain rfl:=o1 ho;have:=nx 1 188;exact vna
   | 3|4|5|6|10=>obtain rfl:=o1 ho;exact ofx 2 189
   | 7|8|9=>obtain rfl:=o1 ho;exact ufx 6 193
   | 11=>obtain rfl:=o1 ho;have:=nx 2 189;exact vna
   | 12=>obtain rfl:=o1 ho;have:=nx 11 198;exact vna
   | 13=>obtain rfl:=o1 ho;refine onx 12 199 ?_;exact vla
   | 14=>obtain rfl:=o1 ho;refine onx 12 199 ?_;have:=nx 13 200;have d:=hGW.1.c1 2;exact vla
   | 15=>obtain rfl:=o1 ho;refine onx 12 199 ?_;have:=nx 14 201;exact vla
   | 16=>obtain rfl:=o1 ho;have:=nx 12 199;have:=nx 15 202;exact vna
   | 17=>obtain rfl:=o1 ho;have:=nx 16 203;exact vna
   | 18=>obtain rfl:=o1 ho;refine onx 17 204 ?_;exact vla
   | 19=>obtain rfl:=o1 ho;refine onx 17 204 ?_;have:=nx 18 205;have d:=hGW.1.c1 2;exact vla
   | 20=>obtain rfl:=o1 ho;refine onx 17 204 ?_;have:=nx 19 206;exact vla
   | 21=>obtain rfl:=o1 ho;have:=nx 17 204;have:=nx 20 207;exact vna
   | 22=>obtain rfl:=o1 ho;have:=nx 21 208;exact vna
   | 23=>obtain rfl:=o1 ho;refine onx 22 209 ?_;exact vla
   | 24=>obtain rfl:=o1 ho;refine onx 22 209 ?_;have:=nx 23 210;have d:=hGW.1.c1 3;exact vla
   | 25=>obtain rfl:=o1 ho;refine onx 22 209 ?_;have:=nx 24 211;exact vla
   | 26=>obtain rfl:=o1 ho;have:=nx 22 209;have:=nx 25 212;exact vna
   | 27=>obtain rfl:=o1 ho;have:=nx 26 213;exact vna
   | 28=>obtain rfl:=o1 ho;refine onx 27 214 ?_;exact vla
   | 29=>obtain rfl:=o1 ho;refine onx 27 214 ?_;have:=nx 28 215;have d:=hGW.1.c1 3;exact vla
   | 30=>obtain rfl:=o1 ho;refine onx 27 214 ?_;have:=nx 29 216;exact vla
   | 31=>obtain rfl:=o1 ho;have:=nx 27 214;have:=nx 30 217;exact vna
   | 32=>obtain rfl:=o1 ho;have:=nx 31 218;exact vna
   | 33=>obtain rfl:=o1 ho;refine onx 32 219 ?_;exact vla
   | 34=>obtain rfl:=o1 ho;refine onx 32 219 ?_;have:=nx 33 220;have d:=hGW.1.c1 4;exact vla
   | 35=>obtain rfl:=o1 ho;refine onx 32 219 ?_;have:=nx 34 221;exact vla
   | 36=>obtain rfl:=o1 ho;have:=nx 32 219;have:=nx 35 222;exact vna
   | 37=>obtain rfl:=o1 ho;have:=nx 36 223;exact vna
   | 38=>obtain rfl:=o1 ho;refine onx 37 224 ?_;exact vla
   | 39=>obtain rfl:=o1 ho;refine onx 37 224 ?_;have:=nx 38 225;have d:=hGW.1.c1 4;exact vla
   | 40=>obtain rfl:=o1 ho;refine onx 37 224 ?_;have:=nx 39 226;exact vla
   | 41=>obtain rfl:=o1 ho;have:=nx 37 224;have:=nx 40 227;exact vna
   | 42=>obtain rfl:=o1 ho;have:=nx 41 228;exact vna
   | 43=>obtain rfl:=o1 ho;refine onx 42 229 ?_;exact vla
   | 44=>obtain rfl:=o1 ho;refine onx 42 229 ?_;have:=nx 43 230;have d:=hGW.1.c1 10;exact vla
   | 45=>obtain rfl:=o1 ho;rw [hc0];refine onx 42 229 ?_;have:=nx 44 231;exact vla
   | 46=>obtain rfl:=o1 ho;have:=nx 42 229;have:=nx 45 232;exact vna
   | 47=>obtain rfl:=o1 ho;have:=nx 46 233;exact vna
   | 48=>
    obtain rfl:=o1 ho
    cases q0:c0 with
    | true=>exact ofy 47 234
    | false=>refine ony 47 234 ?_;exact vla
   | 49=>
    obtain rfl:=o1 ho
    cases q0:c0 with
    | true=>exact ofy 47 234
    | false=>refine ony 47 234 ?_;have:=nY 48 235;have d:=hGW.1.c1 10;exact vla
   | 50=>
    obtain rfl:=o1 ho;rw [hc1]
    cases q0:c0 with
    | true=>exact ofy 47 234
    | false=>refine ony 47 234 ?_;have:=nY 49 236;exact vla
   | 51=>
    obtain rfl:=o1 ho;rw [hc2];have t234:=nx 47 234
    cases qp:c0 with
    | true=>rw [qp] at t234;exact vna
    | false=>rw [qp] at t234;have:=nZ 50 237;exact vna
   | 52=>obtain rfl:=o1 ho;have:=nx 51 238;exact vna
   | 53=>
    obtain rfl:=o1 ho
    cases q0:c2 with
    | true=>exact ofy 52 239
    | false=>refine ony 52 239 ?_;exact vla
   | 54=>
    obtain rfl:=o1 ho
    cases q0:c2 with
    | true=>exact ofy 52 239
    | false=>refine ony 52 239 ?_;have:=nY 53 240;have d:=hGW.1.c1 9;exact vla
   | 55=>
    obtain rfl:=o1 ho;rw [hc3]
    cases q0:c2 with
    | true=>exact ofy 52 239
    | false=>refine ony 52 239 ?_;have:=nY 54 241;exact vla
   | 56=>
    obtain rfl:=o1 ho;rw [hc4];have t239:=nx 52 239
    cases qp:c2 with
    | true=>rw [qp] at t239;exact vna
    | false=>rw [qp] at t239;have:=nZ 55 242;exact vna
   | 57=>obtain rfl:=o1 ho;have:=nx 56 243;exact vna
   | 58=>
    obtain rfl:=o1 ho
    cases q0:c4 with
    | true=>exact ofy 57 244
    | false=>refine ony 57 244 ?_;exact vla
   | 59=>
    obtain rfl:=o1 ho
    cases q0:c4 with
    | true=>exact ofy 57 244
    | false=>refine ony 57 244 ?_;have:=nY 58 245;have d:=hGW.1.c1 9;exact vla
   | 60=>
    obtain rfl:=o1 ho;rw [hc5]
    cases q0:c4 with
    | true=>exact ofy 57 244
    | false=>refine ony 57 244 ?_;have:=nY 59 246;exact vla
   | 61=>
    obtain rfl:=o1 ho;rw [hc6];have t244:=nx 57 244
    cases qp:c4 with
    | true=>rw [qp] at t244;exact vna
    | false=>rw [qp] at t244;have:=nZ 60 247;exact vna
   | 62=>obtain rfl:=o1 ho;have:=nx 61 248;exact vna
   | 63=>
    obtain rfl:=o1 ho
    cases q0:c6 with
    | true=>exact ofy 62 249
    | false=>refine ony 62 249 ?_;exact vla
   | 64=>
    obtain rfl:=o1 ho
    cases q0:c6 with
    | true=>exact ofy 62 249
    | false=>refine ony 62 249 ?_;have:=nY 63 250;have d:=hGW.1.cell 11;have d':=hGW.1.cell 12;simp at d d';exact vla
   | 65=>
    obtain rfl:=o1 ho
    cases q0:c6 with
    | true=>exact ofy 62 249
    | false=>
     refine ony 62 249 ?_;have:=nY 64 251
     refine wp_enter' 100 #[.agg #[atN,atE]] (by unfold execOp;go_simp) ?_
     refine (rplace_any atN atE W).mono ?_
     exact Y59
   | 66=>
    obtain rfl:=o1 ho;rw [hc7]
    cases q0:c6 with
    | true=>exact ofy 62 249
    | false=>refine ony 62 249 ?_;have:=nY 65 252;exact vla
   | 67=>
    obtain rfl:=o1 ho;rw [hc8];have t249:=nx 62 249
    cases qp:c6 with
    | true=>rw [qp] at t249;exact vna
    | false=>rw [qp] at t249;have:=nZ 66 253;exact vna
   | 68=>obtain rfl:=o1 ho;have:=nx 67 254;exact vna
   | 69=>
    obtain rfl:=o1 ho
    cases q0:c8 with
    | true=>exact ofy 68 255
    | false=>refine ony 68 255 ?_;exact vla
   | 70=>
    obtain rfl:=o1 ho
    cases q0:c8 with
    | true=>exact ofy 68 255
    | false=>refine ony 68 255 ?_;have:=nY 69 256;have d:=hGW.1.cell 13;have d':=hGW.1.cell 14;simp at d d';exact vla
   | 71=>
    obtain rfl:=o1 ho
    cases q0:c8 with
    | true=>exact ofy 68 255
    | false=>
     refine ony 68 255 ?_;have:=nY 70 257
     refine wp_enter' 100 #[.agg #[whN,whE]] (by unfold execOp;go_simp) ?_
     refine (rplace_any whN whE W).mono ?_
     exact Y59
   | 72=>
    obtain rfl:=o1 ho;rw [hc9]
    cases q0:c8 with
    | true=>exact ofy 68 255
    | false=>refine ony 68 255 ?_;have:=nY 71 258;exact vla
   | 73=>
    obtain rfl:=o1 ho;rw [hc10];have t255:=nx 68 255
    cases qp:c8 with
    | true=>rw [qp] at t255;exact vna
    | false=>rw [qp] at t255;have:=nZ 72 259;exact vna
   | i+74=>exact (none_past (n:=74) kr ho).elim
 case hend=>
  intro U W hGW hV
  have hx:U 73=.bool c10:=hV 73 kd
  refine HQ.out _ _ ⟨?_,?_,?_,?_,trivial⟩ hGW.1 hGW.2
  ·rw [putU_defers];exact hfr.1
  ·rw [putU_size];exact hfr.2.1
  ·rw [putU_old 1 kd];exact hfr.2.2.1
  ·rw [putU_get (by rw [hfr.2.1];kernel_rfl) 73 260 kd kr,hx,hc10,hc9,hc8,hc7,hc6,hc5,hc4,hc3,hc2,hc1,hc0,c34_9_eq]
theorem right36_9 (w:World) (Q:Z) (a:Act) (mb:Nat) (hfr:Fr 391 a [(1,mb)]) (hm:Blk w mb 30 (mailC 9 0 0 0 0 good eA 0 ec data hA 0 hc epoch site atN atE whN whE oA on oc pA pn pc)) (hQ:∀ a' w',Fr 391 a' [(1,mb),(292,false)]->Blk w' mb 30 (mailC 9 0 0 0 0 good eA 0 ec data hA 0 hc epoch site atN atE whN whE oA on oc pA pn pc)->Below w w w'->Q .normal a' w') :
 (part [1,1,1,1,1,1,1,0,0] (codeOf rightF)).wp prog Q a w:=by
 have ha1:a.eval (.tmp 1)=.pointer (some ⟨mb,0,none⟩):=eval_of hfr.2.2.1
 obtain⟨HQ,HM⟩:=J2 hQ hm
 clear hQ hm
 refine wp_region_named (c:=(part [1,1,1,1,1,1,1,0,0] (codeOf rightF))) (id:=36) kr (fun i v W=>match i with|0=>v=.pointer (some ⟨mb,6,none⟩)|1=>v=.slice eA 0 ec|2=>v=.int .i64 0|3=>v=.bool false|4=>v=.bool false|5=>v=mb|6=>v=.int .i64 9|7=>v=.bool false|8=>v=.bool false|9=>v=undef|10=>v=undef|11=>v=undef|12=>v=undef|13=>v=undef|14=>v=undef|15=>v=undef|16=>v=.bool false|17=>v=.bool false|18=>v=.bool false|19=>v=mb|20=>v=.int .i64 9|21=>v=.bool false|22=>v=.bool false|23=>v=undef|24=>v=undef|25=>v=undef|26=>v=undef|27=>v=undef|28=>v=undef|29=>v=undef|30=>v=.bool false|31=>v=.bool false|_=>True) (fun W=>Blk W mb 30 (mailC 9 0 0 0 0 good eA 0 ec data hA 0 hc epoch site atN atE whN whE oA on oc pA pn pc)/\Below w w W) (fun W W'=>True) ?hsz ?hG ?hmono ?hstep ?hend
 case hsz=>rw [hfr.2.1];kernel_rfl
 case hG=>exact⟨HM.out,Below.refl _ _⟩
 case hmono=>exact fun _ _ _ _ _ h=>h
 case hstep=>
  intro i o F U W ho hGW hat hoff hp
  have hrefl:=fun _:World=>trivial
  have:=act_tmp ((hoff 1 kd).trans ha1)
  obtain⟨qa,qb⟩:=J2 hat hp
  clear hat hoff hp
  match i with
   | 0=>obtain rfl:=o1 ho;exact vna
   | 1=>obtain rfl:=o1 ho;have:=nx 0 261;have d:=hGW.1.c1 6;exact vna
   | 2=>obtain rfl:=o1 ho;have:=nx 1 262;exact vna
   | 3=>obtain rfl:=o1 ho;have:=nx 2 263;exact vna
   | 4=>obtain rfl:=o1 ho;have:=nx 3 264;exact vna
   | 5=>obtain rfl:=o1 ho;refine onx 4 265 ?_;exact vla
   | 6=>obtain rfl:=o1 ho;refine onx 4 265 ?_;have:=nx 5 266;have d:=hGW.1.c1 0;exact vla
   | 7=>obtain rfl:=o1 ho;refine onx 4 265 ?_;have:=nx 6 267;exact vla
   | 8=>obtain rfl:=o1 ho;refine onx 4 265 ?_;have:=nx 7 268;exact vla
   | 9|10|11|12|13|14|15=>obtain rfl:=o1 ho;exact ofx 8 269
   | 16=>obtain rfl:=o1 ho;refine onx 4 265 ?_;have:=nx 8 269;exact vla
   | 17=>obtain rfl:=o1 ho;have:=nx 4 265;have:=nx 16 277;exact vna
   | 18=>obtain rfl:=o1 ho;have:=nx 17 278;exact vna
   | 19=>obtain rfl:=o1 ho;refine onx 18 279 ?_;exact vla
   | 20=>obtain rfl:=o1 ho;refine onx 18 279 ?_;have:=nx 19 280;have d:=hGW.1.c1 0;exact vla
   | 21=>obtain rfl:=o1 ho;refine onx 18 279 ?_;have:=nx 20 281;exact vla
   | 22=>obtain rfl:=o1 ho;refine onx 18 279 ?_;have:=nx 21 282;exact vla
   | 23|24|25|26|27|28|29=>obtain rfl:=o1 ho;exact ofx 22 283
   | 30=>obtain rfl:=o1 ho;refine onx 18 279 ?_;have:=nx 22 283;exact vla
   | 31=>obtain rfl:=o1 ho;have:=nx 18 279;have:=nx 30 291;exact vna
   | i+32=>exact (none_past (n:=32) kr ho).elim
 case hend=>
  intro U W hGW hV
  have hx:U 31=.bool false:=hV 31 kd
  refine HQ.out _ _ ⟨?_,?_,?_,?_,trivial⟩ hGW.1 hGW.2
  ·rw [putU_defers];exact hfr.1
  ·rw [putU_size];exact hfr.2.1
  ·rw [putU_old 1 kd];exact hfr.2.2.1
  ·rw [putU_get (by rw [hfr.2.1];kernel_rfl) 31 292 kd kr,hx]
end
end Go.Proofs.Ytaipgdhdfpemcaa
