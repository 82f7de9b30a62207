/- THE WALKS OF THE LANE, part 33. -/
import Derived.Test.YtaipgdhdfpemcaaF17
import Derived.Test.YtaipgdhdfpemcaaF20
import Derived.Test.YtaipgdhdfpemcaaF31
import Derived.Test.YtaipgdhdfpemcaaF32
namespace Go.Proofs.Ytaipgdhdfpemcaa
set_option linter.all false
open Go.RowKit Go.Proofs.Try
set_option maxRecDepth 100000
set_option maxHeartbeats 4000000
@[reducible] noncomputable def shipsF:Func:=Try.f102
theorem all_drop {f:OpC->Bool} {l:List OpC} {k:Nat} {x:OpC} (h:l[k]? = some x):(l.drop k).all f=(f x&&(l.drop (k+1)).all f):=by
 have hk:k<l.length:=by
  rcases Nat.lt_or_ge k l.length with h1|h1
  ·exact h1
  ·rw [List.getElem?_eq_none h1] at h;cases h
 rw [List.drop_eq_getElem_cons hk]
 rw [List.getElem?_eq_getElem hk] at h
 injection h with h
 rw [h]
 rfl
section
variable {kind term index prev commit:Int} {good:Bool} {eA:O} {en ec:Nat} {data:ByteArray} {hA:O} {hn hc:Nat} {epoch site atN atE whN whE:Int} {oA:O} {on oc:Nat} {pA:O} {pn pc:Nat} {ops:List OpC} {S:Nat->Prop}
section
variable {r:Bool} {b:Nat} {W w:World}
theorem rshp1 (a:Act) (hfr:Fr 50 a [(1,b)]) (hk:Blk w b 30 (mailC kind term index prev commit good eA en ec data hA hn hc epoch site atN atE whN whE oA on oc pA pn pc)) (ho:OpsIs w S pA pn pc ops) (hz:pn<=4294967296) (hb:Below W W w) (hr:r=ops.all fun o=>decide (o.epoch<=epoch)) :
 (part [1,1] (codeOf shipsF)).wp prog (bodyPost prog shipsF fun x w'=>x=.returned (.bool r)/\Below W W w') a w:=by
 have hlen:=ho.len
 obtain⟨HK,HO,HB,HR,HL⟩:=J5 hk ho hb hr hlen
 have hbl:=hk.lt
 clear hk ho hb hr hlen
 refine gg hfr fun t=>?_
 go_wp2_with fail
 go_loopw [3] (fun i wr=>∃ k:Nat,k<=pn/\i=.int .i64 k/\r=(ops.drop k).all (fun o=>decide (o.epoch<=epoch))/\Below w w wr) (fun i _=>pn-(intOf i).toNat)
 case atStart=>exact⟨0,by omega,rfl,by rw [HR.out];rfl,Below.refl _ _⟩
 case round=>
  obtain⟨k,hk,rfl,hrr,hbw⟩:=hrel
  have hkb:=HK.out.below hbw hbl
  have k9':=hkb.cell 9
  have k16:=hkb.cell 16
  simp at k9' k16
  obtain⟨HBW,HRR⟩:=J2 hbw hrr
  clear hrr
  rcases Nat.lt_or_ge k pn with hk1|hk1
  ·obtain⟨ad,o,xA,xn,xc,rfl,hab,hck,hop,hss⟩:=(HO.out.below hbw).at_ hk1
   have HT:=J (all_drop (f:=fun o=>decide (o.epoch<=epoch)) hck)
   obtain⟨c0,c1,c2,c3,c4,c5,c6,c7,c8⟩:=hop
   simp only [OpC.at_] at c0 c1 c2 c3 c4 c5 c6 c7 c8
   have d1:decide ((k:Int)<(pn:Int))=true:=decide_eq_true (by omega)
   have d2:decide (k<pn)=true:=decide_eq_true hk1
   have z2:(0:Int)<=(k:Nat):=by omega
   have z3:((k:Nat):Int)<((pn:Nat):Int):=by omega
   clear hbw hkb hck hss hab
   by_cases h1:o.epoch<=epoch
   ·have d3:decide (epoch<o.epoch)=false:=decide_eq_false (by omega)
    have H1:=J (decide_eq_true h1)
    clear h1
    go_wp2
    go_quiet (fail)
    go_wp2
    refine⟨⟨k+1,hk1,rfl,?_,below_drewN HBW.out _⟩,by simp only [intOf];omega⟩
    rw [HRR.out,HT.out,H1.out,Bool.true_and]
   ·have d3:decide (epoch<o.epoch)=true:=decide_eq_true (by omega)
    have H1:=J (decide_eq_false h1)
    clear h1
    go_wp2
    go_quiet (fail)
    go_wp2
    refine bodyPost_ret (results_tmp rfl _ _ _) rfl ⟨?_,HB.out.trans ((below_drewN HBW.out _).mono HB.out.size)⟩
    rw [HRR.out,HT.out,H1.out,Bool.false_and];rfl
  ·obtain rfl:k=pn:=by omega
   have d1:decide ((k:Int)<(k:Int))=false:=decide_eq_false (by omega)
   have d2:decide (k<k)=false:=decide_eq_false (by omega)
   clear hbw hkb
   go_wp2
   have e:ops.drop k=[]:=List.drop_of_length_le (by have:=HL.out;omega)
   refine bodyPost_ret (results_tmp rfl _ _ _) rfl ⟨?_,HB.out.trans (HBW.out.mono HB.out.size)⟩
   rw [HRR.out,e];rfl
theorem ships_any (w:World) (ho:OpsIs w S pA pn pc ops) (hz:pn<=4294967296) (hok:∀ o∈ops,o.Ok) :
 Calls prog 102 #[.agg (mailC kind term index prev commit good eA en ec data hA hn hc epoch site atN atE whN whE oA on oc pA pn pc)] w fun x w'=>x=.returned (.bool (shipB epoch atN atE ops))/\Below w w w':=by
 have hlen:=ho.len
 have hbk:=Blk.new w 30 (mailC kind term index prev commit good eA en ec data hA hn hc epoch site atN atE whN whE oA on oc pA pn pc)
 have hb0:Below w w (w.alloc (.cells (mailC kind term index prev commit good eA en ec data hA hn hc epoch site atN atE whN whE oA on oc pA pn pc) 30)):=(Below.refl _ _).alloc (Nat.le_refl _) _
 obtain⟨w0,hw0⟩:∃ w0,w0=w.alloc (.cells (mailC kind term index prev commit good eA en ec data hA hn hc epoch site atN atE whN whE oA on oc pA pn pc) 30):=⟨_,rfl⟩
 rw [<-hw0] at hbk hb0
 have ho1:=ho.below hb0
 have j9:=hbk.c1 9
 obtain⟨j11,j12⟩:=hbk.cs 11 2
 have j16:=hbk.c1 16
 obtain⟨HK1,HO1,HB2⟩:=J3 hbk ho1 hb0
 have hrow:=rrow_any atN atE _ ho1 hz hok
 obtain⟨r,hr⟩:∃ r,r=rowB atN atE ops:=⟨_,rfl⟩
 rw [<-hr] at hrow
 obtain⟨HROW,HZ⟩:=J2 hrow hz
 obtain⟨x1,hx1⟩:∃ x,x=decide (epoch<1):=⟨_,rfl⟩
 obtain⟨x2,hx2⟩:∃ x,x=decide (16<epoch):=⟨_,rfl⟩
 obtain⟨x3,hx3⟩:∃ x,x=decide ((8:Int)<(pn:Int)):=⟨_,rfl⟩
 obtain⟨x4,hx4⟩:∃ x,x=decide (epoch<atE):=⟨_,rfl⟩
 have n1:∀ y z:Int,decide (z<=y) = !decide (y<z):=fun y z=>by by_cases h:y<z<;>simp [h];omega
 have hres:shipB epoch atN atE ops=((((((!x1)&&!x2)&&!x3)&&r)&&!x4)&&ops.all fun o=>decide (o.epoch<=epoch)):=by
  have e3:decide (ops.length<=8) = !x3:=by
   rw [hx3,hlen]
   by_cases h:pn<=8
   ·rw [decide_eq_true h,decide_eq_false (by omega)];rfl
   ·rw [decide_eq_false h,decide_eq_true (by omega)];rfl
  unfold shipB
  rw [e3,hr,hx1,hx2,hx4,n1 epoch 1,n1 16 epoch,n1 epoch atE]
  generalize (!decide (epoch<1))=z1
  generalize (!decide (16<epoch))=z2
  generalize (!decide (epoch<atE))=z4
  generalize rowB atN atE ops=z5
  cases z1<;>cases z2<;>cases x3<;>cases z4<;>cases z5<;>rfl
 have HRES:=J hres
 have e1:=hx1.symm
 have e2:=hx2.symm
 have e3:=hx3.symm
 have e4:=hx4.symm
 clear ho hok hbk hb0 ho1 hx1 hx2 hx3 hx4 hres hlen hz hr hrow n1
 subst hw0
 go_enter func102,ntmps102
 conv=>arg 2;arg 2;arg 2;change part [1,1] (codeOf shipsF)
 cases x1 with
 | true=>
  exact Y139
 | false=>
  cases x2 with
  | true=>
   exact Y139
  | false=>
   cases x3 with
   | true=>
    exact Y139
   | false=>
    go_wp2_with fail
    refine HROW.out.mono ?_
    rintro e w2 ⟨rfl,hb3⟩
    have hk2:=HK1.out.below hb3 HK1.out.lt
    have j9:=hk2.c1 9
    have j12:=hk2.c1 12
    have ho2:=HO1.out.below hb3
    have hb4:=HB2.out.trans (hb3.mono HB2.out.size)
    have HQ:=J (And.intro hk2 (And.intro ho2 hb4))
    clear hk2 ho2 hb4 hb3
    cases r with
    | false=>
     exact Y200
    | true=>
     cases x4 with
     | true=>
      exact Y200
     | false=>
      go_wp2_with fail
      exact rshp1 _ ff HQ.out.1 HQ.out.2.1 HZ.out HQ.out.2.2 (by rw [HRES.out];rfl)
end
end
theorem has_any {A:O} {n cap g c1:Nat} {N E:Int} {S:Nat->Prop} (cs:List OpC) (w:World) (h:OpsIs w S A n cap cs) (hz:n<=4294967296) (hg:Blk w g 26 #[N,E]) :
 Calls prog 54 #[.slice A n cap,.slice (some ⟨g,0,none⟩) 1 c1] w fun x w'=>x=.returned (.bool (hasB cs N E))/\Below w w w':=by
 have hl:=h.len
 by_cases h0:N=0/\E=0
 ·have e:hasB cs N E=true:=by simp [hasB,h0.1,h0.2]
  rw [e]
  exact has_zero w hg h0.1 h0.2
 have e0:(decide (N=0)&&decide (E=0))=false:=by
  exact Y192
 by_cases h1:N<1
 ·have e : hasB cs N E = false := by
   exact Y175
  rw [e]
  exact has_low w hg h1 h0
 by_cases h2:(n:Int)<N
 ·have e : hasB cs N E = false := by
   exact Y147
  rw [e]
  exact has_high w hg (by omega) h2
 obtain⟨k,hk⟩:∃ k:Nat,N=(k:Int)+1:=⟨(N-1).toNat,by omega⟩
 subst hk
 obtain⟨ad,c,hA,hn,hc,rfl,hb,ho,hop,hs⟩:=h.at_ (k:=k) (by omega)
 have e1:decide (1<=(k:Int)+1)=true:=decide_eq_true (by omega)
 have e2:decide ((k:Int)+1<=(cs.length:Int))=true:=decide_eq_true (by omega)
 have e3:((k:Int)+1-1).toNat=k:=by omega
 by_cases hne:c.n=(k:Int)+1/\c.epoch=E
 ·have e : hasB cs ((k : Int) + 1) E = true := by
   simp only [hasB,e0,e1,e2,e3,ho,hne.1,hne.2,decide_true,Bool.and_self,Bool.or_true]
  rw [e]
  exact has_yes c w hg (by omega) hz hb hop hne
 ·have e : hasB cs ((k : Int) + 1) E = false := by
   exact Y120
  rw [e]
  exact has_not c w hg (by omega) hz hb hop hne
section
variable {cs:List OpC} {N cap n:Nat} {S:Nat->Prop} {A:O} {w:World}
theorem OpsIs.head (h:OpsIs w S A n cap cs) (hN:N<=n):OpsIs w S A N cap (cs.take N):=by
 obtain⟨os,h1,h2,h3,h4⟩:=h
 have hl:=h1.1
 rw [opsV_len] at hl
 refine⟨os.take N,?_,h2.take N,by omega,h4⟩
 rw [<-opsV_take os N (by omega)]
 refine⟨by rw [List.length_take,h1.1];omega,fun hn=>?_⟩
 obtain⟨ad,e,x1,x2,x3⟩:=h1.2 (by omega)
 refine⟨ad,e,x1,x2,fun j u hu=>x3 j u ?_⟩
 exact Y170
theorem copied_none (c:Nat) (w:World):Calls prog 62 #[.slice none 0 c] w fun x w'=>x=.returned (.slice none 0 0)/\w'=w:=by
 have hc:∀ w:World,Calls prog 98 #[.slice none 0 c] w fun x w'=>x=.returned (.slice none 0 0)/\w'=w:=by
  exact Y92
 have HC:=J hc
 clear hc
 go_enter func62,ntmps62
 go_wp2_with fail
 refine (HC.out w).mono ?_
 exact Y45
theorem copiedL_any (A:O) (n c:Nat) (cs:List OpC) (w:World) (h:OpsIs w S A n c cs) (hn:n<=4294967296) (hok:∀ o∈cs,o.Ok) :
 Calls prog 62 #[.slice A n c] w fun x w'=>∃ A' c',x=.returned (.slice A' n c')/\OpsIs w' (From w.heap.size) A' n c' cs/\Below w w w':=by
 rcases A with _|ad
 ·have hl:=h.len
  have h0:n=0:=by
   exact Y157
  subst h0
  have e:cs=[]:=List.eq_nil_of_length_eq_zero hl
  subst e
  refine (copied_none c w).mono ?_
  exact Y195
 ·exact copied_some ad n c cs w h hn hok
end
structure Ok4 (w0 W:World) (S:Nat->Prop) (lb:Nat) (l:LaneC) (A:O) (n cap:Nat) (os:List OpC):Prop where
 lane:LaneIs W S lb l
 ops:OpsIs W S A n cap os
 low:Below w0 w0 W
theorem Ok4.below {w0 W W':World} {S:Nat->Prop} {lb:Nat} {l:LaneC} {A:O} {n cap:Nat} {os:List OpC} (h:Ok4 w0 W S lb l A n cap os) (hb:Below W W W'):Ok4 w0 W' S lb l A n cap os:=
 ⟨h.lane.below hb,h.ops.below hb,h.low.trans (hb.mono h.low.size)⟩
def MBlk (w:World) (b:Nat):Prop:=∃ cs,Blk w b 30 cs/\cs.size=17
section
variable {b:Nat} {w w':World}
theorem MBlk.below (h:MBlk w b) (hb:Below w w w'):MBlk w' b:=by
 obtain⟨cs,h1,h2⟩:=h
 exact⟨cs,h1.below hb h1.lt,h2⟩
end
def opZ:OpC:=⟨0,0,0,0,0,0,⟨#[]⟩,0,[]⟩
def mailZ:MailC:=⟨0,0,0,0,0,false,[],⟨#[]⟩,[],0,0,0,0,0,0,[],[]⟩
def cmdZ:CmdC:=⟨0,0,0,opZ,0,0,[],0⟩
def ansM (epoch:Int) (good:Bool) (atN atE whN whE:Int) (holes:List Int):MailC:=⟨10,0,0,0,0,good,[],⟨#[]⟩,[],epoch,0,atN,atE,whN,whE,holes,[]⟩
def endC (N E:Int) (ops:List OpC):Int×Int:=match ops.getLast? with
 | none=>(N,E)
 | some o=>(o.n,o.epoch)
def propC (m:MailC):CmdC:=⟨3,m.epoch,m.site,opZ,m.atN,m.atE,m.ops,0⟩
def meetP (os:List OpC) (fence:Int) (m:MailC) (sN sE:Int) (holes:List Int):MailC×CmdC×Int:=
 if (m.kind=9/\m.right9=true)/\¬ (m.epoch=(holderC os).1/\m.site≠(holderC os).2) then
  if m.epoch<fence then (ansM fence false 0 0 0 0 [],cmdZ,1)
  else if m.epoch=fence/\hasB os m.atN m.atE=false then (ansM m.epoch false (Seam.hintN (os.map (·.epoch)) m.atN m.atE) (Seam.ep (os.map (·.epoch)) (Seam.hintN (os.map (·.epoch)) m.atN m.atE)) 0 0 [],cmdZ,1)
  else if m.epoch=fence/\(m.ops.all fun o=>hasB os o.n o.epoch)=true then
   (if (hasB os sN sE&&(ansM m.epoch true (endC m.atN m.atE m.ops).1 (endC m.atN m.atE m.ops).2 sN sE holes).right10)=true then ansM m.epoch true (endC m.atN m.atE m.ops).1 (endC m.atN m.atE m.ops).2 sN sE holes
    else ansM m.epoch true (endC m.atN m.atE m.ops).1 (endC m.atN m.atE m.ops).2 0 0 [],cmdZ,1)
  else (mailZ,propC m,2)
 else (mailZ,cmdZ,0)
theorem eta10 (t:Array Value) (h:t.size=10):t=#[at_ t 0,at_ t 1,at_ t 2,at_ t 3,at_ t 4,at_ t 5,at_ t 6,at_ t 7,at_ t 8,at_ t 9]:=(eta_ t h).trans kr
@[reducible] noncomputable def clF:Func:=Try.f58
def ClS (w:World) (n e:Int) (r:Bool):List Value->World->Prop
 | [],W=>W=w
 | [u],W=>u=.agg #[n,e]/\Below w w W
 | [_,u],W=>(∃ g,u=.slice (some ⟨g,0,none⟩) 1 1/\Blk W g 26 #[n,e])/\Below w w W
 | [_,_,u],W=>u=.bool r/\Below w w W
 | [_,_,_,u],W=>u=.bool (!r)/\Below w w W
 | [_,_,_,_,u],W=>u=.bool (!r)/\Below w w W
 | _,_=>False
section
variable {r:Bool} {e:Int} {os:List OpC} {vs:List Value} {b11 b2 c n oc on:Nat} {Sx:Nat->Prop} {A oA:O} {o:OpC} {W w:World}
theorem ClS.below {n:Int} (h:ClS w n e r vs W):Below w w W:=by
 rcases vs with _|⟨u0,_|⟨u1,_|⟨u2,_|⟨u3,_|⟨u4,_|⟨u5,l⟩⟩⟩⟩⟩⟩
 ·exact (show W=w from h)▸Below.refl _ _
 ·exact h.2
 ·exact h.2
 ·exact h.2
 ·exact h.2
 ·exact h.2
 ·exact h.elim
theorem cl1 (Q:Z) (a:Act) (hfr:Fr 10 a [(1,b11),(2,b2)]) (hb11:Blk w b11 28 #[.slice A n c]) (hb2:Blk w b2 45 #[.int .i64 o.n,o.epoch,o.kind,o.site,o.client,o.seq,.string o.name,o.size,.slice oA on oc]) (ho:OpsIs w Sx A n c os) (hz:n<=4294967296) (hr:r=hasB os o.n o.epoch) (hQ:∀ a' W,Fr 10 a' [(3,(!r))]->Below w w W->Q .normal a' W) :
 (part [1,0] (codeOf clF)).wp prog Q a w:=by
 have hb':Blk w.drew b11 28 #[.slice A n c]:=hb11
 have hb2':Blk w.drew b2 45 #[.int .i64 o.n,o.epoch,o.kind,o.site,o.client,o.seq,.string o.name,o.size,.slice oA on oc]:=hb2
 have ho':OpsIs w.drew Sx A n c os:=ho.below ⟨rfl,rfl,rfl,Nat.le_refl _,fun _ _=>rfl⟩
 have HQ:=J (show ∀ a' W,Fr 10 a' [(3,(!r))]->Below w.drew.heap.size w.drew W->Q .normal a' W from fun a' W hf hh=>hQ a' W hf ⟨hh.os,hh.tape,hh.output,hh.size,hh.block⟩)
 clear hb11 hb2 ho hQ
 obtain⟨w0,hw0⟩:∃ w0,w0=w.drew:=⟨_,rfl⟩
 rw [<-hw0] at hb' hb2' ho' HQ
 obtain⟨HB11,HB2,HO,HZ,HR⟩:=J5 hb' hb2' ho' hz hr
 clear hb' hb2' ho' hz hr
 refine gg hfr fun t=>?_
 generalize w=w1 at hw0 ⊢
 have HW0:=J hw0
 clear hw0
 refine wp_region_chain kr [2,3,4,5,6] (fun i=>match i with|0=>.slice A n c|1=>.agg #[.int .i64 o.n,o.epoch,o.kind,o.site,o.client,o.seq,.string o.name,o.size,.slice oA on oc]|_=>undef) (ClS w0 o.n o.epoch r) (fun s i=>s==i) kr kr kr kr ?hS ?hfree ?hlink ?hend
 case hS=>exact HW0.out.symm
 case hfree=>
  intro i o F U vs W ho hni hS hlen hlim hat hoff hd
  have e1:=oo 1 b11
  have t1:=act_tmp e1
  have e2:=oo 2 b2
  have t2:=act_tmp e2
  obtain⟨qa,qb⟩:=J2 hat hd
  clear hat hoff hd
  match i with
  | 0=>
   cases ho
   have hbW:=hS.below
   have d0:=(HB11.out.below hbW HB11.out.lt).cell 0
   exact Y127
  | 1=>
   cases ho
   have hbW:=hS.below
   have d0:=(HB2.out.below hbW HB2.out.lt).cell 0
   have d1:=(HB2.out.below hbW HB2.out.lt).cell 1
   have d2:=(HB2.out.below hbW HB2.out.lt).cell 2
   have d3:=(HB2.out.below hbW HB2.out.lt).cell 3
   have d4:=(HB2.out.below hbW HB2.out.lt).cell 4
   have d5:=(HB2.out.below hbW HB2.out.lt).cell 5
   have d6:=(HB2.out.below hbW HB2.out.lt).cell 6
   have d7:=(HB2.out.below hbW HB2.out.lt).cell 7
   have d8:=(HB2.out.below hbW HB2.out.lt).cell 8
   simp at d0 d1 d2 d3 d4 d5 d6 d7 d8
   exact vl ⟨rfl,rfl⟩
  | 2|3|4|5|6=>
   exact Y76
  | i+7=>exact absurd ho (by simp)
 case hlink=>
  intro k i o F U vs W hk ho hS hvl hat hoff hd
  have:=ot 1 b11
  have:=ot 2 b2
  obtain⟨qa,qb⟩:=J2 hat hd
  clear hat hoff hd
  match k with
  | 0=>
   cases hk;cases ho;obtain rfl:=List.eq_nil_of_length_eq_zero hvl;have e5:=fev qa qb 1 5;have t5:=act_tmp e5;obtain rfl:=hS
   refine wp_enter' 59 #[.agg #[.int .i64 o.n,o.epoch,o.kind,o.site,o.client,o.seq,.string o.name,o.size,.slice oA on oc]] (by unfold execOp;go_simp) ?_
   refine (spot_any _ _ _ _ _ _ _ _ _ _).mono ?_
   rintro e W' ⟨rfl,hb⟩
   exact⟨_,rfl,_,rfl,rfl,hb⟩
  | 1=>
   cases hk;cases ho;obtain⟨u0,rfl⟩:=ln1 hvl;have e6:=cev qa qb 2 6;have t6:=act_tmp e6;obtain⟨hu,hb⟩:=hS;rw [hu] at e6;have t6:=act_tmp e6
   exact wp_value' (.slice (some ⟨W.heap.size,0,none⟩) 1 1) (W.alloc (.cells #[.int .i64 o.n,o.epoch] 26)) (by unfold execOp;go_simp) ⟨_,rfl,⟨_,rfl,Blk.new W _ _⟩,hb.alloc hb.size _⟩
  | 2=>
   cases hk;cases ho;obtain⟨u0,u1,rfl⟩:=ln2 hvl;have e4:=fev qa qb 0 4;have t4:=act_tmp e4;have e7:=cev qa qb 3 7;have t7:=act_tmp e7;obtain⟨⟨g,hu,hg⟩,hb⟩:=hS;rw [hu] at e7;have t7:=act_tmp e7
   refine wp_enter' 54 #[.slice A n c,.slice (some ⟨g,0,none⟩) 1 1] (by unfold execOp;go_simp) ?_
   refine (has_any os W (HO.out.below hb) HZ.out hg).mono ?_
   rintro e W' ⟨rfl,hb'⟩
   exact⟨_,rfl,_,rfl,by rw [HR.out],hb.trans (hb'.mono hb.size)⟩
  | 3=>
   cases hk;cases ho;obtain⟨u0,u1,u2,rfl⟩:=ln3 hvl;have e8:=cev qa qb 4 8;have t8:=act_tmp e8;obtain⟨hu,hb⟩:=hS;rw [hu] at e8;have t8:=act_tmp e8
   exact wp_value' (.bool (!r)) W (by unfold execOp;go_simp) ⟨_,rfl,rfl,hb⟩
  | 4=>cases hk;cases ho;obtain⟨u0,u1,u2,u3,rfl⟩:=ln4 hvl;have e9:=cev qa qb 5 9;have t9:=act_tmp e9;obtain⟨hu,hb⟩:=hS;rw [hu] at e9;exact wp_assign' (.tmp 9) rfl ⟨_,congrArg (F.put _) e9,rfl,hb⟩
  | k+5=>exact absurd hk (by simp)
 case hend=>
  intro U vs W hS hvl hfr hch
  obtain⟨x0,x1,x2,x3,x4,rfl⟩:=ln5 hvl
  obtain⟨hx,hb⟩:=hS
  have q6:U 6=.bool (!r):=by
   have:=hch 4 6 rfl
   simp only [List.getElem?_cons_zero,List.getElem?_cons_succ,Option.some.injEq] at this
   rw [<-this,hx]
  clear hfr hch
  simp [putU,dstAt,Act.put,q6]
  exact HQ.out _ _ ff hb
theorem closure_any (o:OpC) (oA:O) (on oc:Nat) (w:World) (hb11:Blk w b11 28 #[.slice A n c]) (ho:OpsIs w Sx A n c os) (hz:n<=4294967296) :
 Calls prog 58 #[.agg #[.int .i64 o.n,o.epoch,o.kind,o.site,o.client,o.seq,.string o.name,o.size,.slice oA on oc],.pointer (some ⟨b11,0,none⟩)] w fun x w'=>x=.returned (.bool (!(hasB os o.n o.epoch)))/\Below w w w':=by
 have hb0:Below w w (w.alloc (.cells #[.int .i64 o.n,o.epoch,o.kind,o.site,o.client,o.seq,.string o.name,o.size,.slice oA on oc] 45)):=(Below.refl _ _).alloc (Nat.le_refl _) _
 have hk:=Blk.new w 45 #[.int .i64 o.n,o.epoch,o.kind,o.site,o.client,o.seq,.string o.name,o.size,.slice oA on oc]
 have hk11:=hb11.below hb0 hb11.lt
 have ho1:=ho.below hb0
 have hs:(w.alloc (.cells #[.int .i64 o.n,o.epoch,o.kind,o.site,o.client,o.seq,.string o.name,o.size,.slice oA on oc] 45)).heap.size=w.heap.size+1:=by simp
 obtain⟨r,hr⟩:∃ r,r=hasB os o.n o.epoch:=⟨_,rfl⟩
 rw [<-hr]
 obtain⟨HB0,HK,HK11,HO,HZ,HR⟩:=J6 hb0 hk hk11 ho1 hz hr
 clear hb0 hk hk11 ho1 hz hr hb11 ho hs
 go_enter func58,ntmps58
 conv=>arg 2;arg 2;arg 1;change part [1,0] (codeOf clF)
 go_wp2_with fail
 refine cl1 _ _ ff HK11.out HK.out HO.out HZ.out HR.out fun a' W hf hb=>?_
 obtain⟨t,df⟩:=a'
 obtain⟨hd,hs,h3,-⟩:=hf
 simp only at hd hs h3
 subst hd
 rw [eta10 t hs,h3]
 clear hs h3
 have HB:=J (HB0.out.trans (hb.mono HB0.out.size))
 clear hb
 go_wp2_with fail
 go_ret
 exact⟨rfl,HB.out⟩
end
section
variable {b11 n c:Nat} {A:O} {os ops:List OpC} {Sx Sy:Nat->Prop} {pA:O} {pn pc:Nat}
section
variable (w:World) (hb11:Blk w b11 28 #[.slice A n c]) (ho:OpsIs w Sx A n c os) (hz:n<=4294967296) (hp:OpsIs w Sy pA pn pc ops) (hpz:pn<=4294967296)
include w hb11 ho hz hp hpz
theorem indexF_any :
 Calls prog 97 #[.slice pA pn pc,.func (.func 58) #[] #[.pointer (some ⟨b11,0,none⟩)]] w fun x w'=>(∃ i:Int,x=.returned (.int .i64 i)/\decide (0<=i) = !(ops.all fun o=>hasB os o.n o.epoch))/\Below w w w':=by
 have hlen:=hp.len
 obtain⟨HB11,HO,HZ,HP,HL⟩:=J5 hb11 ho hz hp hlen
 clear hb11 ho hz hp hlen
 go_enter func97,ntmps97
 go_wp2_with fail
 go_loopw [8] (fun i wr=>∃ k:Nat,k<=pn/\i=.int .i64 k/\(ops.all fun o=>hasB os o.n o.epoch)=(ops.drop k).all (fun o=>hasB os o.n o.epoch)/\Below w w wr) (fun i _=>pn-(intOf i).toNat)
 case atStart=>exact⟨0,by omega,rfl,rfl,Below.refl _ _⟩
 case round=>
  obtain⟨k,hk,rfl,hrr,hbw⟩:=hrel
  obtain⟨HBW,HRR⟩:=J2 hbw hrr
  clear hrr
  rcases Nat.lt_or_ge k pn with hk1|hk1
  ·obtain⟨ad,o,xA,xn,xc,rfl,hab,hck,hop,hss⟩:=(HP.out.below hbw).at_ hk1
   have HT:=J (all_drop (f:=fun o=>hasB os o.n o.epoch) hck)
   obtain⟨c0,c1,c2,c3,c4,c5,c6,c7,c8⟩:=hop
   simp only [OpC.at_] at c0 c1 c2 c3 c4 c5 c6 c7 c8
   have d1:decide ((k:Int)<(pn:Int))=true:=decide_eq_true (by omega)
   have d2:decide (k<pn)=true:=decide_eq_true hk1
   have z2:(0:Int)<=(k:Nat):=by omega
   have z3:((k:Nat):Int)<((pn:Nat):Int):=by omega
   have hcl:=closure_any o xA xn xc wr (HB11.out.below hbw HB11.out.lt) (HO.out.below hbw) HZ.out
   obtain⟨r,hr⟩:∃ r,r=hasB os o.n o.epoch:=⟨_,rfl⟩
   rw [<-hr] at hcl
   obtain⟨HCL,HR⟩:=J2 hcl hr
   clear hbw hck hss hab hcl hr
   go_wp2_with fail
   refine HCL.out.mono ?_
   rintro e w2 ⟨rfl,hb2⟩
   have HB2:=J (HBW.out.trans (hb2.mono HBW.out.size))
   clear hb2
   cases r with
   | true=>
    go_wp2
    refine⟨⟨k+1,hk1,rfl,?_,HB2.out⟩,by simp only [intOf];omega⟩
    rw [HRR.out,HT.out,<-HR.out,Bool.true_and]
   | false=>
    go_wp2
    refine bodyPost_ret (results_tmp rfl _ _ _) rfl ⟨⟨k,rfl,?_⟩,HB2.out⟩
    rw [HRR.out,HT.out,<-HR.out,Bool.false_and]
    exact decide_eq_true (by omega)
  ·obtain rfl:k=pn:=by omega
   have d1:decide ((k:Int)<(k:Int))=false:=decide_eq_false (by omega)
   have d2:decide (k<k)=false:=decide_eq_false (by omega)
   clear hbw
   go_wp2
   have e:ops.drop k=[]:=List.drop_of_length_le (by have:=HL.out;omega)
   refine bodyPost_ret (results_tmp rfl _ _ _) rfl ⟨⟨-1,rfl,?_⟩,HBW.out⟩
   rw [HRR.out,e];rfl
theorem containsF_any :
 Calls prog 57 #[.slice pA pn pc,.func (.func 58) #[] #[.pointer (some ⟨b11,0,none⟩)]] w fun x w'=>x=.returned (.bool (!(ops.all fun o=>hasB os o.n o.epoch)))/\Below w w w':=by
 have hix:=indexF_any w hb11 ho hz hp hpz
 obtain⟨r,hr⟩:∃ r,r=ops.all fun o=>hasB os o.n o.epoch:=⟨_,rfl⟩
 rw [<-hr] at hix ⊢
 have HIX:=J hix
 clear hix hr hb11 ho hz hp hpz
 go_enter func57,ntmps57
 go_wp2_with fail
 refine HIX.out.mono ?_
 rintro e w2 ⟨⟨i,rfl,hi⟩,hb2⟩
 have HB2:=J hb2
 clear hb2
 go_wp2
 go_ret
 exact⟨rfl,HB2.out⟩
end
end
end Go.Proofs.Ytaipgdhdfpemcaa
