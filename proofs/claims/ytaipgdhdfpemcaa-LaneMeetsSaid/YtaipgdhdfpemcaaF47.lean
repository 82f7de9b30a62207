/- THE WALKS OF THE LANE, part 47. -/
import Derived.Test.YtaipgdhdfpemcaaF28
import Derived.Test.YtaipgdhdfpemcaaF42
import Derived.Test.YtaipgdhdfpemcaaF45
import Derived.Test.YtaipgdhdfpemcaaF46
namespace Go.Proofs.Ytaipgdhdfpemcaa
set_option linter.all false
open Go.RowKit Go.Proofs.Try
set_option maxRecDepth 100000
set_option maxHeartbeats 4000000
section
variable {good:Bool} {data:ByteArray} {atE atN epoch whE whN:Int} {ec hc oc on pc:Nat} {S:Nat->Prop} {eA hA oA pA:O}
theorem right10_eq (m:MailC):m.right10=(c32 m.term m.index m.prev m.commit m.ents.length m.data m.hs.length m.site m.ops.length&&(c34 m.epoch m.atN m.atE m.whN m.whE&&(riseB m.whN 0 m.holes&&decide (1<=m.epoch)))):=by
 unfold MailC.right10 pre1 chk8 c32 c34
 obtain⟨b1,h1⟩:∃ b,b=placeB m.atN m.atE:=⟨_,rfl⟩
 obtain⟨b2,h2⟩:∃ b,b=placeB m.whN m.whE:=⟨_,rfl⟩
 obtain⟨b3,h3⟩:∃ b,b=riseB m.whN 0 m.holes:=⟨_,rfl⟩
 rw [<-h1,<-h2,<-h3]
 clear h1 h2 h3
 rw [Bool.eq_iff_iff]
 simp only [Bool.and_eq_true,decide_eq_true_eq,Bool.not_eq_true',bne_self_eq_false,Bool.and_false]
 constructor
 ·rintro ⟨⟨h1,h2,h3,h4,h5⟩,⟨_,⟨h6,h7⟩,h8,h9,_⟩,h10,h11,h12,h13⟩
  refine⟨⟨⟨⟨⟨⟨⟨⟨⟨h1,h2⟩,h3⟩,h4⟩,h5⟩,?_⟩,?_⟩,h11⟩,?_⟩,⟨⟨⟨h6,h7⟩,h8⟩,h9⟩,h13,?_⟩<;>omega
 ·rintro ⟨⟨⟨⟨⟨⟨⟨⟨⟨h1,h2⟩,h3⟩,h4⟩,h5⟩,h6⟩,h7⟩,h8⟩,h9⟩,⟨⟨⟨h10,h11⟩,h12⟩,h13⟩,h14,h15⟩
  refine⟨⟨h1,h2,h3,h4,h5⟩,⟨⟨?_,?_⟩,⟨h10,h11⟩,h12,h13,?_⟩,?_,h8,?_,h14⟩<;>first|rfl|omega|simp
section
variable (w:World) (R:Ending->World->Prop) (Q:Z) (a:Act) (mb:Nat) (hfr:Fr 391 a [(1,mb)]) (hR:R (.returned (.bool false)) w) (hq:∀ a w,bodyPost prog rightF R .ret a w->Q .ret a w)
include w R Q a mb hfr hR hq
theorem rightNo1 :
 (part [1,1,1,1,1,0,1,0] (codeOf rightF)).wp prog Q a w:=by
 exact Y232
theorem rightNo2 :
 (part [1,1,1,1,1,1,0,1,0] (codeOf rightF)).wp prog Q a w:=by
 exact Y232
theorem rightNo3 :
 (part [1,1,1,1,1,1,1,0,1,0] (codeOf rightF)).wp prog Q a w:=by
 exact Y232
end
section
variable (w:World) (Q:Z) (a:Act) (mb:Nat)
include w Q a mb
theorem right27 (hfr:Fr 391 a [(1,mb),(3,.string ⟨#[69,103,97,119,72]⟩)]) (hQ:∀ a',Fr 391 a' [(1,mb),(3,.string ⟨#[69,103,97,119,72]⟩),(4,.map (some w.heap.size))]->Q .normal a' (w.alloc (.map #[] 0))) :
 (part [1,1,1,0] (codeOf rightF)).wp prog Q a w:=by
 exact Y169
section
variable (hfr:Fr 391 a [(1,mb)]) (hm:Blk w mb 30 (mailC 10 0 0 0 0 good eA 0 ec data hA 0 hc epoch 0 atN atE whN whE oA on oc pA 0 pc)) (hQ:∀ a',Fr 391 a' [(1,mb)]->Q .normal a' w)
include hfr hm hQ
theorem right38:(part [1,1,1,1,1,1,1,1,0] (codeOf rightF)).wp prog Q a w:=by
 exact Y86
theorem right43:(part [1,1,1,1,1,1,1,1,1,0] (codeOf rightF)).wp prog Q a w:=by
 exact Y87
end
end
theorem right48 (w:World) (R:Ending->World->Prop) (Q:Z) (a:Act) (mb:Nat) (hfr:Fr 391 a [(1,mb)]) (hm:Blk w mb 30 (mailC 10 0 0 0 0 good eA 0 ec data hA 0 hc epoch 0 atN atE whN whE oA on oc pA 0 pc)) (hR:R (.returned (.bool (decide (1<=epoch)))) w) (hq:∀ a w,bodyPost prog rightF R .ret a w->Q .ret a w):(part [1,1,1,1,1,1,1,1,1,1,0] (codeOf rightF)).wp prog Q a w:=by
 obtain⟨HR,HQ⟩:=J2 hR hq
 have d:=hm.c1 0
 have d9:=hm.c1 9
 clear hR hq hm
 exact Y69
theorem right_tail0 (w0 w:World) (b:Bool) (a:Act) (mb g:Nat) (holes:List Int) (hfr:Fr 391 a [(1,mb),(4,.map (some g))]) (hn:NamedIs w g [72,119,97,103,69]) (hm:Blk w mb 30 (mailC 10 0 0 0 0 good eA 0 ec data hA 0 hc epoch 0 atN atE whN whE oA on oc pA 0 pc)) (ho:IntIs w S oA on oc holes) (hz:on<=140737488351232) (hb:Below w0 w0 w) (hres:b=(c34 epoch atN atE whN whE&&(riseB whN 0 holes&&decide (1<=epoch)))) :
 (part [1,1,1,1,1,1] (codeOf rightF)).wp prog (bodyPost prog rightF fun e w'=>e=.returned (.bool b)/\Below w0 w0 w') a w:=by
 refine Ytaipgdhdfpemcaa.w2 ?_
 refine Ytaipgdhdfpemcaa.w2 ?_
 refine right34 w _ a mb g hfr hn hm fun a1 w1 f1 m1 b1=>?_
 have hF1:Fr 391 a1 [(1,mb)]:=⟨f1.1,f1.2.1,f1.2.2.1,trivial⟩
 have hb1:=hb.trans (b1.mono hb.size)
 show (part [1,1,1,1,1,1,0,1] (codeOf rightF)).wp prog (Exit.then ((part [1,1,1,1,1,1,1] (codeOf rightF)).wp prog (bodyPost prog rightF fun e w'=>e=.returned (.bool b)/\Below w0 w0 w')) (bodyPost prog rightF fun e w'=>e=.returned (.bool b)/\Below w0 w0 w')) a1 w1
 refine wp_if (x:=part [1,1,1,1,1,1,0,1,0] (codeOf rightF)) (y:=part [1,1,1,1,1,1,0,1,1] (codeOf rightF)) (o:=.tmp 260) kr (eval_at f1.2.2.2.1 rfl) (fun ht=>?_) (fun ht=>?_)
 ·have hc:c34 epoch atN atE whN whE=false:=by simpa using ht
  exact Y165
 have hc34:c34 epoch atN atE whN whE=true:=by simpa using ht
 refine wp_nop kr ?_
 show (part [1,1,1,1,1,1,1] (codeOf rightF)).wp prog (bodyPost prog rightF fun e w'=>e=.returned (.bool b)/\Below w0 w0 w') a1 w1
 refine Ytaipgdhdfpemcaa.w2 ?_
 refine Ytaipgdhdfpemcaa.w2 ?_
 refine right36 w1 _ a1 mb holes hF1 m1 (ho.below b1) hz fun a2 w2 f2 m2 b2=>?_
 have hF2:Fr 391 a2 [(1,mb)]:=⟨f2.1,f2.2.1,f2.2.2.1,trivial⟩
 have hb2:=hb1.trans (b2.mono hb1.size)
 show (part [1,1,1,1,1,1,1,0,1] (codeOf rightF)).wp prog (Exit.then ((part [1,1,1,1,1,1,1,1] (codeOf rightF)).wp prog (bodyPost prog rightF fun e w'=>e=.returned (.bool b)/\Below w0 w0 w')) (bodyPost prog rightF fun e w'=>e=.returned (.bool b)/\Below w0 w0 w')) a2 w2
 refine wp_if (x:=part [1,1,1,1,1,1,1,0,1,0] (codeOf rightF)) (y:=part [1,1,1,1,1,1,1,0,1,1] (codeOf rightF)) (o:=.tmp 292) kr (eval_at f2.2.2.2.1 rfl) (fun ht=>?_) (fun ht=>?_)
 ·have hc:riseB whN 0 holes=false:=by simpa using ht
  exact rightNo3 w2 (fun e w'=>e=.returned (.bool b)/\Below w0 w0 w') _ a2 mb hF2 ⟨by rw [hres,hc34,hc];rfl,hb2⟩ fun _ _ hq=>hq
 have hris:riseB whN 0 holes=true:=by simpa using ht
 refine wp_nop kr ?_
 show (part [1,1,1,1,1,1,1,1] (codeOf rightF)).wp prog (bodyPost prog rightF fun e w'=>e=.returned (.bool b)/\Below w0 w0 w') a2 w2
 refine Ytaipgdhdfpemcaa.w2 ?_
 refine right38 w2 _ a2 mb hF2 m2 fun a3 f3=>?_
 show (part [1,1,1,1,1,1,1,1,1] (codeOf rightF)).wp prog (bodyPost prog rightF fun e w'=>e=.returned (.bool b)/\Below w0 w0 w') a3 w2
 refine Ytaipgdhdfpemcaa.w2 ?_
 refine right43 w2 _ a3 mb f3 m2 fun a4 f4=>?_
 show (part [1,1,1,1,1,1,1,1,1,1] (codeOf rightF)).wp prog (bodyPost prog rightF fun e w'=>e=.returned (.bool b)/\Below w0 w0 w') a4 w2
 refine Ytaipgdhdfpemcaa.w2 ?_
 exact right48 w2 (fun e w'=>e=.returned (.bool b)/\Below w0 w0 w') _ a4 mb f4 m2 ⟨by rw [hres,hc34,hris];rfl,hb2⟩ fun _ _ hq=>hq
theorem right_tail (w0 w:World) (m:MailC) (cells:Array Value) (a:Act) (mb:Nat) (hfr:Fr 391 a [(1,mb),(3,.string ⟨#[69,103,97,119,72]⟩)]) (hk:m.kind=10) (hm:Blk w mb 30 cells) (hs:MailIs w S cells m) (hok:m.Ok) (hb:Below w0 w0 w) :
 (part [1,1,1] (codeOf rightF)).wp prog (bodyPost prog rightF fun e w'=>e=.returned (.bool m.right10)/\Below w0 w0 w') a w:=by
 obtain⟨kind,term,index,prev,commit,good,ents,data,hs',epoch,site,atN,atE,whN,whE,holes,ops⟩:=m
 simp only at hk
 subst hk
 have hres:=right10_eq ⟨10,term,index,prev,commit,good,ents,data,hs',epoch,site,atN,atE,whN,whE,holes,ops⟩
 simp only at hres
 obtain⟨eA,en,ec,hA,hn,hc,oA,on,oc,pA,pn,pc,rfl,h1,h2,h3,h4⟩:=hs
 have l1:=h1.len
 have l2:=h2.len
 have l3:=h3.len
 have l4:=h4.len
 have hz:on<=140737488351232:=by have:=hok.holes;simp only at this;rw [l3] at this;omega
 rw [l1,l2,l4] at hres
 simp only at h3 hm
 clear h1 h2 h4 hok l1 l2 l3 l4
 obtain⟨r,hr⟩:∃ r,r=(⟨10,term,index,prev,commit,good,ents,data,hs',epoch,site,atN,atE,whN,whE,holes,ops⟩:MailC).right10:=⟨_,rfl⟩
 rw [<-hr] at hres ⊢
 clear hr
 refine Ytaipgdhdfpemcaa.w2 ?_
 refine right27 w _ a mb hfr fun a1 f1=>?_
 have hba:Below w w (w.alloc (.map #[] 0)):=(Below.refl _ _).alloc (Nat.le_refl _) _
 show (part [1,1,1,1] (codeOf rightF)).wp prog (bodyPost prog rightF fun e w'=>e=.returned (.bool r)/\Below w0 w0 w') a1 (w.alloc (.map #[] 0))
 refine Ytaipgdhdfpemcaa.w2 ?_
 refine right28 _ _ a1 mb w.heap.size f1 (World.ownsMap_made w _ _ _) fun a2 w2 f2 n2 b2=>?_
 have hb2:Below w w w2:=hba.trans b2
 have m2:=hm.below hb2 hm.lt
 have hbb:=hb.trans (hb2.mono hb.size)
 show (part [1,1,1,1,1] (codeOf rightF)).wp prog (bodyPost prog rightF fun e w'=>e=.returned (.bool r)/\Below w0 w0 w') a2 w2
 refine Ytaipgdhdfpemcaa.w2 ?_
 refine Ytaipgdhdfpemcaa.w2 ?_
 refine right32 w2 _ a2 mb w.heap.size f2 n2 m2 fun a3 f3=>?_
 show (part [1,1,1,1,1,0,1] (codeOf rightF)).wp prog (Exit.then ((part [1,1,1,1,1,1] (codeOf rightF)).wp prog (bodyPost prog rightF fun e w'=>e=.returned (.bool r)/\Below w0 w0 w')) (bodyPost prog rightF fun e w'=>e=.returned (.bool r)/\Below w0 w0 w')) a3 w2
 refine wp_if (x:=part [1,1,1,1,1,0,1,0] (codeOf rightF)) (y:=part [1,1,1,1,1,0,1,1] (codeOf rightF)) (o:=.tmp 186) kr (eval_at f3.2.2.2.2.1 rfl) (fun ht=>?_) (fun ht=>?_)
 ·have hc:c32 term index prev commit en data hn site pn=false:=by simpa using ht
  exact Y137
 have hc:c32 term index prev commit en data hn site pn=true:=by simpa using ht
 rw [hc,Bool.true_and] at hres
 simp only [c32,Bool.and_eq_true,decide_eq_true_eq] at hc
 obtain⟨⟨⟨⟨⟨⟨⟨⟨rfl,rfl⟩,rfl⟩,rfl⟩,rfl⟩,_⟩,rfl⟩,rfl⟩,rfl⟩:=hc
 refine wp_nop kr ?_
 exact right_tail0 w0 w2 r a3 mb w.heap.size holes ⟨f3.1,f3.2.1,f3.2.2.1,f3.2.2.2.1,trivial⟩ n2 m2 (h3.below hb2) hz hbb hres
theorem right10_any (cells:Array Value) (m:MailC) (w:World) (hk:m.kind=10) (hm:MailIs w S cells m) (hok:m.Ok) :
 Calls prog 64 #[.agg cells] w fun e w'=>e=.returned (.bool m.right10)/\Below w w w':=by
 obtain⟨kind,term,index,prev,commit,good,ents,data,hs',epoch,site,atN,atE,whN,whE,holes,ops⟩:=m
 simp only at hk
 subst hk
 have hm0:=hm
 obtain⟨eA,en,ec,hA,hn,hc,oA,on,oc,pA,pn,pc,rfl,_⟩:=hm0
 have hbl:Below w w (w.alloc (.cells (mailC 10 term index prev commit good eA en ec data hA hn hc epoch site atN atE whN whE oA on oc pA pn pc) 30)):=(Below.refl _ _).alloc (Nat.le_refl _) _
 have hbk:=Blk.new w 30 (mailC 10 term index prev commit good eA en ec data hA hn hc epoch site atN atE whN whE oA on oc pA pn pc)
 have c0:=hbk.c1 0
 have HM:=J (hm.below hbl)
 obtain⟨HB,HK,HOK⟩:=J3 hbl hbk hok
 clear hm hok hbl hbk
 go_enter func64,ntmps64
 conv=>arg 2;arg 2;arg 2;arg 2;change part [1,1,1] (codeOf rightF)
 go_wp2_with fail
 exact right_tail w _ _ _ _ w.heap.size ff rfl HK.out HM.out HOK.out HB.out
end
@[reducible] noncomputable def rmeetF:Func:=Try.f18
structure Rg (w:World) (b b4:Nat) (Sx:Nat->Prop) (A:O) (n c:Nat) (os:List OpC) (lA:O) (ln lc:Nat) (fence st:Int) (mc:Array Value):Prop where
 led:Blk w b 62 (rledC A n c lA ln lc fence st)
 ops:OpsIs w Sx A n c os
 k4:Blk w b4 30 mc
section
variable {mc:Array Value} {r r2:Bool} {E N fence k sE sN st:Int} {os:List OpC} {m y:MailC} {b b11 b13 b14 b4 b5 b6 b7 c ec en hc hn jc jn lc ln n oc on pc pn:Nat} {Sx Sy:Nat->Prop} {A eA hA jA lA oA pA:O} {y0 y1 y10 y11 y12 y13 y14 y15 y16 y2 y3 y4 y5 y6 y7 y8 y9:Value} {W w w':World}
section
variable (h:Rg w b b4 Sx A n c os lA ln lc fence st mc)
include h
theorem Rg.below (hb:Below w w w'):Rg w' b b4 Sx A n c os lA ln lc fence st mc:=
 ⟨h.led.below hb h.led.lt,h.ops.below hb,h.k4.below hb h.k4.lt⟩
theorem Rg.drew:Rg w.drew b b4 Sx A n c os lA ln lc fence st mc:=
 h.below ⟨rfl,rfl,rfl,Nat.le_refl _,fun _ _=>rfl⟩
end
theorem undrew (h:Below w.drew.heap.size w.drew W):Below w w W:=⟨h.os,h.tape,h.output,h.size,h.block⟩
theorem rm4 (Q:Z) (a:Act) (hfr:Fr 161 a [(0,b),(4,b4),(5,b5),(6,b6),(7,b7)]) (h:Rg w b b4 Sx A n c os lA ln lc fence st (mailC m.kind m.term m.index m.prev m.commit m.good eA en ec m.data hA hn hc m.epoch m.site m.atN m.atE m.whN m.whE oA on oc pA pn pc)) (hQ:∀ a' w',Fr 161 a' [(0,b),(4,b4),(5,b5),(6,b6),(7,b7),(47,(decide (m.epoch<fence)))]->Below w w w'->Q .normal a' w') :
 (part [1,1,1,0,0] (codeOf rmeetF)).wp prog Q a w:=by
 have hg:=h.drew
 have HQ:=J (show ∀ a' w',Fr 161 a' [(0,b),(4,b4),(5,b5),(6,b6),(7,b7),(47,(decide (m.epoch<fence)))]->Below w.drew.heap.size w.drew w'->Q .normal a' w' from fun a' w' hf hb=>hQ a' w' hf (undrew hb))
 clear hQ h
 obtain⟨w0,hw0⟩:∃ w0,w0=w.drew:=⟨_,rfl⟩
 rw [<-hw0] at hg HQ
 have HG:=J hg
 clear hg
 refine gg hfr fun t=>?_
 generalize w=w1 at hw0 ⊢
 have HW0:=J hw0
 clear hw0
 refine wp_region_all kr (fun i v W=>match i with|0=>v=.pointer (some ⟨b4,9,none⟩)|1=>v=m.epoch|2=>v=b|3=>v=b|4=>v=.pointer (some ⟨b,2,none⟩)|5=>v=fence|6=>v=.bool (decide (m.epoch<fence))|_=>True) (fun W=>Rg W b b4 Sx A n c os lA ln lc fence st (mailC m.kind m.term m.index m.prev m.commit m.good eA en ec m.data hA hn hc m.epoch m.site m.atN m.atE m.whN m.whE oA on oc pA pn pc)/\Below w0 w0 W) (fun _ _=>True) kr ?hG ?hmono ?hstep ?hend
 case hG=>exact (show ∀ W,W=w0->(fun W=>Rg W b b4 Sx A n c os lA ln lc fence st (mailC m.kind m.term m.index m.prev m.commit m.good eA en ec m.data hA hn hc m.epoch m.site m.atN m.atE m.whN m.whE oA on oc pA pn pc)/\Below w0 w0 W) W from fun W h=>by rw [h];exact⟨HG.out,Below.refl _ _⟩) _ HW0.out.symm
 case hmono=>exact fun _ _ _ _ _ h=>h
 case hstep=>
  intro i o F U W ho hGW hat hoff hp
  have hrefl:=fun _:World=>trivial
  have:=ot 0 b
  have:=ot 4 b4
  obtain⟨qa,qb⟩:=J2 hat hp
  clear hat hoff hp
  match i with
   | 0|2=>cases ho;exact vna
   | 1=>cases ho;have:=tx 0 41;have d:=hGW.1.k4.c1 9;exact vna
   | 3=>cases ho;have:=tx 2 43;exact vna
   | 4=>cases ho;have:=tx 3 44;exact vna
   | 5=>cases ho;have:=tx 4 45;have d:=hGW.1.led.c1 2;exact vna
   | 6=>cases ho;have:=tx 1 42;have:=tx 5 46;exact vna
   | i+7=>exact absurd ho (by simp)
 case hend=>
  intro U W hGW hV
  have hr:U 6=.bool (decide (m.epoch<fence)):=hV 6 kd
  exact Y61
theorem rm6t (hz:n<=4294967296) (hr:r=hasB os m.atN m.atE) (d1:(m.epoch==fence)=true) (Q:Z) (a:Act) (hfr:Fr 161 a [(0,b),(4,b4),(5,b5),(6,b6),(7,b7)]) (h:Rg w b b4 Sx A n c os lA ln lc fence st (mailC m.kind m.term m.index m.prev m.commit m.good eA en ec m.data hA hn hc m.epoch m.site m.atN m.atE m.whN m.whE oA on oc pA pn pc)) (hQ:∀ a' w',Fr 161 a' [(0,b),(4,b4),(5,b5),(6,b6),(7,b7),(70,(!r))]->Below w w w'->Q .normal a' w') :
 (part [1,1,1,1,0,0] (codeOf rmeetF)).wp prog Q a w:=by
 have hg:=h.drew
 have HQ:=J (show ∀ a' w',Fr 161 a' [(0,b),(4,b4),(5,b5),(6,b6),(7,b7),(70,(!r))]->Below w.drew.heap.size w.drew w'->Q .normal a' w' from fun a' w' hf hb=>hQ a' w' hf (undrew hb))
 clear hQ h
 obtain⟨w0,hw0⟩:∃ w0,w0=w.drew:=⟨_,rfl⟩
 rw [<-hw0] at hg HQ
 obtain⟨HG,HZ,HR⟩:=J3 hg hz hr
 clear hg hz hr
 refine gg hfr fun t=>?_
 generalize w=w1 at hw0 ⊢
 have HW0:=J hw0
 clear hw0
 refine wp_region_all kr (fun i v W=>match i with|0=>v=.pointer (some ⟨b4,9,none⟩)|1=>v=m.epoch|2=>v=b|3=>v=b|4=>v=.pointer (some ⟨b,2,none⟩)|5=>v=fence|6=>v=.bool true|7=>v=.bool true|8=>v=b|9=>v=b|10=>v=b|11=>v=.slice A n c|12=>v=.pointer (some ⟨b4,11,none⟩)|13=>v=.agg #[m.atN,m.atE]|14=>v=r|15=>v=.bool (!r)|16=>v=.bool (!r)|_=>True) (fun W=>Rg W b b4 Sx A n c os lA ln lc fence st (mailC m.kind m.term m.index m.prev m.commit m.good eA en ec m.data hA hn hc m.epoch m.site m.atN m.atE m.whN m.whE oA on oc pA pn pc)/\Below w0 w0 W) (fun _ _=>True) kr ?hG ?hmono ?hstep ?hend
 case hG=>exact (show ∀ W,W=w0->(fun W=>Rg W b b4 Sx A n c os lA ln lc fence st (mailC m.kind m.term m.index m.prev m.commit m.good eA en ec m.data hA hn hc m.epoch m.site m.atN m.atE m.whN m.whE oA on oc pA pn pc)/\Below w0 w0 W) W from fun W h=>by rw [h];exact⟨HG.out,Below.refl _ _⟩) _ HW0.out.symm
 case hmono=>exact fun _ _ _ _ _ h=>h
 case hstep=>
  intro i o F U W ho hGW hat hoff hp
  have hrefl:=fun _:World=>trivial
  have:=ot 0 b
  have:=ot 4 b4
  obtain⟨qa,qb⟩:=J2 hat hp
  clear hat hoff hp
  match i with
   | 0|2=>cases ho;exact vna
   | 1=>cases ho;have:=tx 0 54;have d:=hGW.1.k4.c1 9;exact vna
   | 3=>cases ho;have:=tx 2 56;exact vna
   | 4=>cases ho;have:=tx 3 57;exact vna
   | 5=>cases ho;have:=tx 4 58;have d:=hGW.1.led.c1 2;exact vna
   | 6=>cases ho;have:=tx 1 55;have:=tx 5 59;exact vna
   | 7=>cases ho;have:=tx 6 60;exact vna
   | 8|12=>cases ho;refine onv 7 61 ?_;exact vla
   | 9=>cases ho;refine onv 7 61 ?_;have:=tx 8 62;exact vla
   | 10=>cases ho;refine onv 7 61 ?_;have:=tx 9 63;exact vla
   | 11=>cases ho;refine onv 7 61 ?_;have:=tx 10 64;have d:=hGW.1.led.c1 0;exact vla
   | 13=>cases ho;refine onv 7 61 ?_;have:=tx 12 66;obtain⟨d1,d2⟩:=hGW.1.k4.cs 11 2;exact vla
   | 14=>
    cases ho;refine onv 7 61 ?_;have:=tx 11 65;have:=tx 13 67
    refine wp_enter' 65 #[.slice A n c,.agg #[m.atN,m.atE]] (by unfold execOp;go_simp) ?_
    refine (rhas_any (N:=m.atN) (E:=m.atE) os W hGW.1.ops HZ.out).mono ?_
    rintro e W' ⟨rfl,hb⟩
    rw [<-HR.out];exact⟨_,rfl,_,rfl,rfl,⟨hGW.1.below hb,hGW.2.trans (hb.mono hGW.2.size)⟩,trivial⟩
   | 15=>cases ho;refine onv 7 61 ?_;have:=tx 14 68;exact vla
   | 16=>cases ho;have:=tx 7 61;have:=tx 15 69;exact vna
   | i+17=>exact absurd ho (by simp)
 case hend=>
  intro U W hGW hV
  have hr:U 16=.bool (!r):=hV 16 kd
  exact Y61
theorem rm6f (d1:(m.epoch==fence)=false) (Q:Z) (a:Act) (hfr:Fr 161 a [(0,b),(4,b4),(5,b5),(6,b6),(7,b7)]) (h:Rg w b b4 Sx A n c os lA ln lc fence st (mailC m.kind m.term m.index m.prev m.commit m.good eA en ec m.data hA hn hc m.epoch m.site m.atN m.atE m.whN m.whE oA on oc pA pn pc)) (hQ:∀ a' w',Fr 161 a' [(0,b),(4,b4),(5,b5),(6,b6),(7,b7),(70,false)]->Below w w w'->Q .normal a' w') :
 (part [1,1,1,1,0,0] (codeOf rmeetF)).wp prog Q a w:=by
 have hg:=h.drew
 have HQ:=J (show ∀ a' w',Fr 161 a' [(0,b),(4,b4),(5,b5),(6,b6),(7,b7),(70,false)]->Below w.drew.heap.size w.drew w'->Q .normal a' w' from fun a' w' hf hb=>hQ a' w' hf (undrew hb))
 clear hQ h
 obtain⟨w0,hw0⟩:∃ w0,w0=w.drew:=⟨_,rfl⟩
 rw [<-hw0] at hg HQ
 have HG:=J hg
 clear hg
 refine gg hfr fun t=>?_
 generalize w=w1 at hw0 ⊢
 have HW0:=J hw0
 clear hw0
 refine wp_region_all kr (fun i v W=>match i with|0=>v=.pointer (some ⟨b4,9,none⟩)|1=>v=m.epoch|2=>v=b|3=>v=b|4=>v=.pointer (some ⟨b,2,none⟩)|5=>v=fence|6=>v=.bool false|7=>v=.bool false|8=>v=undef|9=>v=undef|10=>v=undef|11=>v=undef|12=>v=undef|13=>v=undef|14=>v=undef|15=>v=undef|16=>v=.bool false|_=>True) (fun W=>Rg W b b4 Sx A n c os lA ln lc fence st (mailC m.kind m.term m.index m.prev m.commit m.good eA en ec m.data hA hn hc m.epoch m.site m.atN m.atE m.whN m.whE oA on oc pA pn pc)/\Below w0 w0 W) (fun _ _=>True) kr ?hG ?hmono ?hstep ?hend
 case hG=>exact (show ∀ W,W=w0->(fun W=>Rg W b b4 Sx A n c os lA ln lc fence st (mailC m.kind m.term m.index m.prev m.commit m.good eA en ec m.data hA hn hc m.epoch m.site m.atN m.atE m.whN m.whE oA on oc pA pn pc)/\Below w0 w0 W) W from fun W h=>by rw [h];exact⟨HG.out,Below.refl _ _⟩) _ HW0.out.symm
 case hmono=>exact fun _ _ _ _ _ h=>h
 case hstep=>
  intro i o F U W ho hGW hat hoff hp
  have hrefl:=fun _:World=>trivial
  have:=ot 0 b
  have:=ot 4 b4
  obtain⟨qa,qb⟩:=J2 hat hp
  clear hat hoff hp
  match i with
   | 0|2=>cases ho;exact vna
   | 1=>cases ho;have:=tx 0 54;have d:=hGW.1.k4.c1 9;exact vna
   | 3=>cases ho;have:=tx 2 56;exact vna
   | 4=>cases ho;have:=tx 3 57;exact vna
   | 5=>cases ho;have:=tx 4 58;have d:=hGW.1.led.c1 2;exact vna
   | 6=>cases ho;have:=tx 1 55;have:=tx 5 59;exact vna
   | 7=>cases ho;have:=tx 6 60;exact vna
   | 8|9|10|11|12|13|14|15=>cases ho;exact ofv 7 61
   | 16=>cases ho;have:=tx 7 61;exact vna
   | i+17=>exact absurd ho (by simp)
 case hend=>
  intro U W hGW hV
  have hr:U 16=.bool false:=hV 16 kd
  exact Y61
theorem rm8 (Q:Z) (a:Act) (hfr:Fr 161 a [(0,b),(4,b4),(5,b5),(6,b6),(7,b7)]) (h:Rg w b b4 Sx A n c os lA ln lc fence st (mailC m.kind m.term m.index m.prev m.commit m.good eA en ec m.data hA hn hc m.epoch m.site m.atN m.atE m.whN m.whE oA on oc pA pn pc)) (hQ:∀ a' w',Fr 161 a' [(0,b),(4,b4),(5,b5),(6,b6),(7,b7),(10,.bool (m.epoch==fence))]->Below w w w'->Q .normal a' w') :
 (part [1,1,1,1,1,0] (codeOf rmeetF)).wp prog Q a w:=by
 have hg:=h.drew
 have HQ:=J (show ∀ a' w',Fr 161 a' [(0,b),(4,b4),(5,b5),(6,b6),(7,b7),(10,.bool (m.epoch==fence))]->Below w.drew.heap.size w.drew w'->Q .normal a' w' from fun a' w' hf hb=>hQ a' w' hf (undrew hb))
 clear hQ h
 obtain⟨w0,hw0⟩:∃ w0,w0=w.drew:=⟨_,rfl⟩
 rw [<-hw0] at hg HQ
 have HG:=J hg
 clear hg
 refine gg hfr fun t=>?_
 generalize w=w1 at hw0 ⊢
 have HW0:=J hw0
 clear hw0
 refine wp_region_all kr (fun i v W=>match i with|0=>v=.pointer (some ⟨b4,9,none⟩)|1=>v=m.epoch|2=>v=b|3=>v=b|4=>v=.pointer (some ⟨b,2,none⟩)|5=>v=fence|6=>v=.bool (m.epoch==fence)|7=>v=.bool (m.epoch==fence)|_=>True) (fun W=>Rg W b b4 Sx A n c os lA ln lc fence st (mailC m.kind m.term m.index m.prev m.commit m.good eA en ec m.data hA hn hc m.epoch m.site m.atN m.atE m.whN m.whE oA on oc pA pn pc)/\Below w0 w0 W) (fun _ _=>True) kr ?hG ?hmono ?hstep ?hend
 case hG=>exact (show ∀ W,W=w0->(fun W=>Rg W b b4 Sx A n c os lA ln lc fence st (mailC m.kind m.term m.index m.prev m.commit m.good eA en ec m.data hA hn hc m.epoch m.site m.atN m.atE m.whN m.whE oA on oc pA pn pc)/\Below w0 w0 W) W from fun W h=>by rw [h];exact⟨HG.out,Below.refl _ _⟩) _ HW0.out.symm
 case hmono=>exact fun _ _ _ _ _ h=>h
 case hstep=>
  intro i o F U W ho hGW hat hoff hp
  have hrefl:=fun _:World=>trivial
  have:=ot 0 b
  have:=ot 4 b4
  obtain⟨qa,qb⟩:=J2 hat hp
  clear hat hoff hp
  match i with
   | 0|2=>cases ho;exact vna
   | 1=>cases ho;have:=tx 0 87;have d:=hGW.1.k4.c1 9;exact vna
   | 3=>cases ho;have:=tx 2 89;exact vna
   | 4=>cases ho;have:=tx 3 90;exact vna
   | 5=>cases ho;have:=tx 4 91;have d:=hGW.1.led.c1 2;exact vna
   | 6=>cases ho;have:=tx 1 88;have:=tx 5 92;exact vna
   | 7=>cases ho;have:=tx 6 93;exact vna
   | i+8=>exact absurd ho (by simp)
 case hend=>
  intro U W hGW hV
  have hr:U 7=.bool (m.epoch==fence):=hV 7 kd
  exact Y61
theorem rm14t (hk11:Blk w b11 26 #[N,E]) (hz:n<=4294967296) (hr:r=hasB os N E) (Q:Z) (a:Act) (hfr:Fr 161 a [(0,b),(4,b4),(5,b5),(6,b6),(7,b7),(10,true),(11,b11),(12,k)]) (h:Rg w b b4 Sx A n c os lA ln lc fence st (mailC m.kind m.term m.index m.prev m.commit m.good eA en ec m.data hA hn hc m.epoch m.site m.atN m.atE m.whN m.whE oA on oc pA pn pc)) (hQ:∀ a' w',Fr 161 a' [(0,b),(4,b4),(5,b5),(6,b6),(7,b7),(11,b11),(12,k),(10,r)]->Below w w w'->Q .normal a' w') :
 (part [1,1,1,1,1,1,1,0,1,0,0,1,0,0,1] (codeOf rmeetF)).wp prog Q a w:=by
 have hg:=h.drew
 have hk:=hk11.drew
 have HQ:=J (show ∀ a' w',Fr 161 a' [(0,b),(4,b4),(5,b5),(6,b6),(7,b7),(11,b11),(12,k),(10,r)]->Below w.drew.heap.size w.drew w'->Q .normal a' w' from fun a' w' hf hb=>hQ a' w' hf (undrew hb))
 clear hQ h
 obtain⟨w0,hw0⟩:∃ w0,w0=w.drew:=⟨_,rfl⟩
 rw [<-hw0] at hg HQ hk
 obtain⟨HG,HK11⟩:=J2 hg hk
 clear hk hk11
 obtain⟨HZ,HR⟩:=J2 hz hr
 clear hg hz hr
 refine gg hfr fun t=>?_
 generalize w=w1 at hw0 ⊢
 have HW0:=J hw0
 clear hw0
 refine wp_region_old kr (fun i v W=>match i with|0=>v=.bool true|1=>v=.bool true|2=>v=b|3=>v=b|4=>v=b|5=>v=.slice A n c|6=>v=.agg #[N,E]|7=>v=r|8=>v=r|9=>v=r|_=>True) (fun W=>(Rg W b b4 Sx A n c os lA ln lc fence st (mailC m.kind m.term m.index m.prev m.commit m.good eA en ec m.data hA hn hc m.epoch m.site m.atN m.atE m.whN m.whE oA on oc pA pn pc)/\Blk W b11 26 #[N,E])/\Below w0 w0 W) [9] (fun s i=>decide (i<=s)) (fun _ _=>True) kr kr ?hG ?hmono ?hstep ?hend
 case hG=>exact (show ∀ W,W=w0->(fun W=>(Rg W b b4 Sx A n c os lA ln lc fence st (mailC m.kind m.term m.index m.prev m.commit m.good eA en ec m.data hA hn hc m.epoch m.site m.atN m.atE m.whN m.whE oA on oc pA pn pc)/\Blk W b11 26 #[N,E])/\Below w0 w0 W) W from fun W h=>by rw [h];exact⟨⟨HG.out,HK11.out⟩,Below.refl _ _⟩) _ HW0.out.symm
 case hmono=>exact fun _ _ _ _ _ h=>h
 case hstep=>
  intro i o F U W ho hGW hOld hat hoff hp
  have hrefl:=fun _:World=>trivial
  have:=ot 0 b
  have:=ot 11 b11
  obtain⟨qa,qb⟩:=J2 hat hp
  clear hat hoff hp
  match i with
   | 0=>
    cases ho
    have e10:F.eval (.tmp 10)=.bool true:=(hOld 9 (by simp) kr 10 rfl kd).trans rfl
    have t10:=act_tmp e10;exact vna
   | 1=>cases ho;have:=tx 0 109;exact vna
   | 2=>cases ho;refine onv 1 110 ?_;exact vla
   | 3=>cases ho;refine onv 1 110 ?_;have:=tx 2 111;exact vla
   | 4=>cases ho;refine onv 1 110 ?_;have:=tx 3 112;exact vla
   | 5=>cases ho;refine onv 1 110 ?_;have:=tx 4 113;have d:=hGW.1.1.led.c1 0;exact vla
   | 6=>cases ho;refine onv 1 110 ?_;obtain⟨d1,d2⟩:=hGW.1.2.cs 0 2;exact vla
   | 7=>
    cases ho;refine onv 1 110 ?_;have:=tx 5 114;have:=tx 6 115
    refine wp_enter' 65 #[.slice A n c,.agg #[N,E]] (by unfold execOp;go_simp) ?_
    refine (rhas_any (N:=N) (E:=E) os W hGW.1.1.ops HZ.out).mono ?_
    rintro e W' ⟨rfl,hb⟩
    rw [<-HR.out];exact⟨_,rfl,_,rfl,rfl,⟨⟨hGW.1.1.below hb,hGW.1.2.below hb hGW.1.2.lt⟩,hGW.2.trans (hb.mono hGW.2.size)⟩,trivial⟩
   | 8=>cases ho;have:=tx 1 110;have:=tx 7 116;exact vna
   | 9=>cases ho;have:=tx 8 117;exact vna
   | i+10=>exact absurd ho (by simp)
 case hend=>
  intro U W hGW hV
  have hr:U 9=.bool r:=hV 9 kd
  exact Y53
theorem rm14f (hk11:Blk w b11 26 #[N,E]) (Q:Z) (a:Act) (hfr:Fr 161 a [(0,b),(4,b4),(5,b5),(6,b6),(7,b7),(10,false),(11,b11),(12,k)]) (h:Rg w b b4 Sx A n c os lA ln lc fence st (mailC m.kind m.term m.index m.prev m.commit m.good eA en ec m.data hA hn hc m.epoch m.site m.atN m.atE m.whN m.whE oA on oc pA pn pc)) (hQ:∀ a' w',Fr 161 a' [(0,b),(4,b4),(5,b5),(6,b6),(7,b7),(11,b11),(12,k),(10,false)]->Below w w w'->Q .normal a' w') :
 (part [1,1,1,1,1,1,1,0,1,0,0,1,0,0,1] (codeOf rmeetF)).wp prog Q a w:=by
 have hg:=h.drew
 have hk:=hk11.drew
 have HQ:=J (show ∀ a' w',Fr 161 a' [(0,b),(4,b4),(5,b5),(6,b6),(7,b7),(11,b11),(12,k),(10,false)]->Below w.drew.heap.size w.drew w'->Q .normal a' w' from fun a' w' hf hb=>hQ a' w' hf (undrew hb))
 clear hQ h
 obtain⟨w0,hw0⟩:∃ w0,w0=w.drew:=⟨_,rfl⟩
 rw [<-hw0] at hg HQ hk
 obtain⟨HG,HK11⟩:=J2 hg hk
 clear hk hk11
 clear hg
 refine gg hfr fun t=>?_
 generalize w=w1 at hw0 ⊢
 have HW0:=J hw0
 clear hw0
 refine wp_region_old kr (fun i v W=>match i with|0=>v=.bool false|1=>v=.bool false|2=>v=undef|3=>v=undef|4=>v=undef|5=>v=undef|6=>v=undef|7=>v=undef|8=>v=.bool false|9=>v=.bool false|_=>True) (fun W=>(Rg W b b4 Sx A n c os lA ln lc fence st (mailC m.kind m.term m.index m.prev m.commit m.good eA en ec m.data hA hn hc m.epoch m.site m.atN m.atE m.whN m.whE oA on oc pA pn pc)/\Blk W b11 26 #[N,E])/\Below w0 w0 W) [9] (fun s i=>decide (i<=s)) (fun _ _=>True) kr kr ?hG ?hmono ?hstep ?hend
 case hG=>exact (show ∀ W,W=w0->(fun W=>(Rg W b b4 Sx A n c os lA ln lc fence st (mailC m.kind m.term m.index m.prev m.commit m.good eA en ec m.data hA hn hc m.epoch m.site m.atN m.atE m.whN m.whE oA on oc pA pn pc)/\Blk W b11 26 #[N,E])/\Below w0 w0 W) W from fun W h=>by rw [h];exact⟨⟨HG.out,HK11.out⟩,Below.refl _ _⟩) _ HW0.out.symm
 case hmono=>exact fun _ _ _ _ _ h=>h
 case hstep=>
  intro i o F U W ho hGW hOld hat hoff hp
  have hrefl:=fun _:World=>trivial
  have:=ot 0 b
  have:=ot 11 b11
  obtain⟨qa,qb⟩:=J2 hat hp
  clear hat hoff hp
  match i with
   | 0=>
    cases ho
    have e10:F.eval (.tmp 10)=.bool false:=(hOld 9 (by simp) kr 10 rfl kd).trans rfl
    have t10:=act_tmp e10;exact vna
   | 1=>cases ho;have:=tx 0 109;exact vna
   | 2|3|4|5|6|7=>cases ho;exact ofv 1 110
   | 8=>cases ho;have:=tx 1 110;exact vna
   | 9=>cases ho;have:=tx 8 117;exact vna
   | i+10=>exact absurd ho (by simp)
 case hend=>
  intro U W hGW hV
  have hr:U 9=.bool false:=hV 9 kd
  exact Y53
section
variable (hk5:Blk w b5 32 #[sN,sE,.slice jA jn jc]) (hk14:Blk w b14 30 #[y0,y1,y2,y3,y4,y5,y6,y7,y8,y9,y10,y11,y12,y13,y14,y15,y16]) (hy:MailIs w Sy #[y0,y1,y2,y3,y4,y5,y6,y7,y8,y9,y10,y11,y12,y13,y14,y15,y16] y) (hz:n<=4294967296)
include hk5 hk14 hy hz
theorem rm20t (hr:true=hasB os sN sE) (hr2:r2=y.right10) (hyk:y.kind=10) (hyo:y.Ok) (Q:Z) (a:Act) (hfr:Fr 161 a [(0,b),(4,b4),(5,b5),(6,b6),(7,b7),(13,b13),(14,b14)]) (h:Rg w b b4 Sx A n c os lA ln lc fence st (mailC m.kind m.term m.index m.prev m.commit m.good eA en ec m.data hA hn hc m.epoch m.site m.atN m.atE m.whN m.whE oA on oc pA pn pc)) (hQ:∀ a' w',Fr 161 a' [(0,b),(4,b4),(5,b5),(6,b6),(7,b7),(13,b13),(14,b14),(142,r2)]->Below w w w'->Q .normal a' w') :
 (part [1,1,1,1,1,1,1,1,0,1,0,1,1,1,1,0,0] (codeOf rmeetF)).wp prog Q a w:=by
 have hg:=h.drew
 have hk:=And.intro hk5.drew (And.intro hk14.drew (show MailIs w.drew Sy #[y0,y1,y2,y3,y4,y5,y6,y7,y8,y9,y10,y11,y12,y13,y14,y15,y16] y from hy.below ⟨rfl,rfl,rfl,Nat.le_refl _,fun _ _=>rfl⟩))
 have HQ:=J (show ∀ a' w',Fr 161 a' [(0,b),(4,b4),(5,b5),(6,b6),(7,b7),(13,b13),(14,b14),(142,r2)]->Below w.drew.heap.size w.drew w'->Q .normal a' w' from fun a' w' hf hb=>hQ a' w' hf (undrew hb))
 clear hQ h
 obtain⟨w0,hw0⟩:∃ w0,w0=w.drew:=⟨_,rfl⟩
 rw [<-hw0] at hg HQ hk
 obtain⟨HG,HK11⟩:=J2 hg hk
 clear hk hk5 hk14 hy
 obtain⟨HZ,HR,HR2,HYK,HYO⟩:=J5 hz hr hr2 hyk hyo
 clear hg hz hr hr2 hyk hyo
 refine gg hfr fun t=>?_
 generalize w=w1 at hw0 ⊢
 have HW0:=J hw0
 clear hw0
 refine wp_region_all kr (fun i v W=>match i with|0=>v=b|1=>v=b|2=>v=b|3=>v=.slice A n c|4=>v=b5|5=>v=.agg #[sN,sE]|6=>v=.bool true|7=>v=.bool true|8=>v=.agg #[y0,y1,y2,y3,y4,y5,y6,y7,y8,y9,y10,y11,y12,y13,y14,y15,y16]|9=>v=r2|10=>v=r2|_=>True) (fun W=>(Rg W b b4 Sx A n c os lA ln lc fence st (mailC m.kind m.term m.index m.prev m.commit m.good eA en ec m.data hA hn hc m.epoch m.site m.atN m.atE m.whN m.whE oA on oc pA pn pc)/\Blk W b5 32 #[sN,sE,.slice jA jn jc]/\Blk W b14 30 #[y0,y1,y2,y3,y4,y5,y6,y7,y8,y9,y10,y11,y12,y13,y14,y15,y16]/\MailIs W Sy #[y0,y1,y2,y3,y4,y5,y6,y7,y8,y9,y10,y11,y12,y13,y14,y15,y16] y)/\Below w0 w0 W) (fun _ _=>True) kr ?hG ?hmono ?hstep ?hend
 case hG=>exact (show ∀ W,W=w0->(fun W=>(Rg W b b4 Sx A n c os lA ln lc fence st (mailC m.kind m.term m.index m.prev m.commit m.good eA en ec m.data hA hn hc m.epoch m.site m.atN m.atE m.whN m.whE oA on oc pA pn pc)/\Blk W b5 32 #[sN,sE,.slice jA jn jc]/\Blk W b14 30 #[y0,y1,y2,y3,y4,y5,y6,y7,y8,y9,y10,y11,y12,y13,y14,y15,y16]/\MailIs W Sy #[y0,y1,y2,y3,y4,y5,y6,y7,y8,y9,y10,y11,y12,y13,y14,y15,y16] y)/\Below w0 w0 W) W from fun W h=>by rw [h];exact⟨⟨HG.out,HK11.out.1,HK11.out.2.1,HK11.out.2.2⟩,Below.refl _ _⟩) _ HW0.out.symm
 case hmono=>exact fun _ _ _ _ _ h=>h
 case hstep=>
  intro i o F U W ho hGW hat hoff hp
  have hrefl:=fun _:World=>trivial
  have:=ot 0 b
  have:=ot 5 b5
  have:=ot 14 b14
  obtain⟨qa,qb⟩:=J2 hat hp
  clear hat hoff hp
  match i with
   | 0|4=>cases ho;exact vna
   | 1=>cases ho;have:=tx 0 132;exact vna
   | 2=>cases ho;have:=tx 1 133;exact vna
   | 3=>cases ho;have:=tx 2 134;have d:=hGW.1.1.led.c1 0;exact vna
   | 5=>cases ho;have:=tx 4 136;obtain⟨d1,d2⟩:=hGW.1.2.1.cs 0 2;exact vna
   | 6=>
    exact Y40
   | 7=>cases ho;have:=tx 6 138;exact vna
   | 8=>cases ho;refine onv 7 139 ?_;obtain⟨k0,k1,k2,k3,k4,k5,k6,k7,k8,k9,k10,k11,k12,k13,k14,k15,k16⟩:=hGW.1.2.2.1.cs 0 17;exact vla
   | 9=>
    cases ho;refine onv 7 139 ?_;have:=tx 8 140
    refine wp_enter' 64 #[.agg #[y0,y1,y2,y3,y4,y5,y6,y7,y8,y9,y10,y11,y12,y13,y14,y15,y16]] (by unfold execOp;go_simp) ?_
    refine (right10_any _ y W HYK.out hGW.1.2.2.2 HYO.out).mono ?_
    rintro e W' ⟨rfl,hb⟩
    rw [<-HR2.out];exact⟨_,rfl,_,rfl,rfl,⟨⟨hGW.1.1.below hb,hGW.1.2.1.below hb hGW.1.2.1.lt,hGW.1.2.2.1.below hb hGW.1.2.2.1.lt,hGW.1.2.2.2.below hb⟩,hGW.2.trans (hb.mono hGW.2.size)⟩,trivial⟩
   | 10=>cases ho;have:=tx 7 139;have:=tx 9 141;exact vna
   | i+11=>exact absurd ho (by simp)
 case hend=>
  intro U W hGW hV
  have hr:U 10=.bool r2:=hV 10 kd
  exact Y53
theorem rm20f (hr:false=hasB os sN sE) (Q:Z) (a:Act) (hfr:Fr 161 a [(0,b),(4,b4),(5,b5),(6,b6),(7,b7),(13,b13),(14,b14)]) (h:Rg w b b4 Sx A n c os lA ln lc fence st (mailC m.kind m.term m.index m.prev m.commit m.good eA en ec m.data hA hn hc m.epoch m.site m.atN m.atE m.whN m.whE oA on oc pA pn pc)) (hQ:∀ a' w',Fr 161 a' [(0,b),(4,b4),(5,b5),(6,b6),(7,b7),(13,b13),(14,b14),(142,false)]->Below w w w'->Q .normal a' w') :
 (part [1,1,1,1,1,1,1,1,0,1,0,1,1,1,1,0,0] (codeOf rmeetF)).wp prog Q a w:=by
 have hg:=h.drew
 have hk:=And.intro hk5.drew (And.intro hk14.drew (show MailIs w.drew Sy #[y0,y1,y2,y3,y4,y5,y6,y7,y8,y9,y10,y11,y12,y13,y14,y15,y16] y from hy.below ⟨rfl,rfl,rfl,Nat.le_refl _,fun _ _=>rfl⟩))
 have HQ:=J (show ∀ a' w',Fr 161 a' [(0,b),(4,b4),(5,b5),(6,b6),(7,b7),(13,b13),(14,b14),(142,false)]->Below w.drew.heap.size w.drew w'->Q .normal a' w' from fun a' w' hf hb=>hQ a' w' hf (undrew hb))
 clear hQ h
 obtain⟨w0,hw0⟩:∃ w0,w0=w.drew:=⟨_,rfl⟩
 rw [<-hw0] at hg HQ hk
 obtain⟨HG,HK11⟩:=J2 hg hk
 clear hk hk5 hk14 hy
 obtain⟨HZ,HR⟩:=J2 hz hr
 clear hg hz hr
 refine gg hfr fun t=>?_
 generalize w=w1 at hw0 ⊢
 have HW0:=J hw0
 clear hw0
 refine wp_region_all kr (fun i v W=>match i with|0=>v=b|1=>v=b|2=>v=b|3=>v=.slice A n c|4=>v=b5|5=>v=.agg #[sN,sE]|6=>v=.bool false|7=>v=.bool false|8=>v=undef|9=>v=undef|10=>v=.bool false|_=>True) (fun W=>(Rg W b b4 Sx A n c os lA ln lc fence st (mailC m.kind m.term m.index m.prev m.commit m.good eA en ec m.data hA hn hc m.epoch m.site m.atN m.atE m.whN m.whE oA on oc pA pn pc)/\Blk W b5 32 #[sN,sE,.slice jA jn jc]/\Blk W b14 30 #[y0,y1,y2,y3,y4,y5,y6,y7,y8,y9,y10,y11,y12,y13,y14,y15,y16]/\MailIs W Sy #[y0,y1,y2,y3,y4,y5,y6,y7,y8,y9,y10,y11,y12,y13,y14,y15,y16] y)/\Below w0 w0 W) (fun _ _=>True) kr ?hG ?hmono ?hstep ?hend
 case hG=>exact (show ∀ W,W=w0->(fun W=>(Rg W b b4 Sx A n c os lA ln lc fence st (mailC m.kind m.term m.index m.prev m.commit m.good eA en ec m.data hA hn hc m.epoch m.site m.atN m.atE m.whN m.whE oA on oc pA pn pc)/\Blk W b5 32 #[sN,sE,.slice jA jn jc]/\Blk W b14 30 #[y0,y1,y2,y3,y4,y5,y6,y7,y8,y9,y10,y11,y12,y13,y14,y15,y16]/\MailIs W Sy #[y0,y1,y2,y3,y4,y5,y6,y7,y8,y9,y10,y11,y12,y13,y14,y15,y16] y)/\Below w0 w0 W) W from fun W h=>by rw [h];exact⟨⟨HG.out,HK11.out.1,HK11.out.2.1,HK11.out.2.2⟩,Below.refl _ _⟩) _ HW0.out.symm
 case hmono=>exact fun _ _ _ _ _ h=>h
 case hstep=>
  intro i o F U W ho hGW hat hoff hp
  have hrefl:=fun _:World=>trivial
  have:=ot 0 b
  have:=ot 5 b5
  have:=ot 14 b14
  obtain⟨qa,qb⟩:=J2 hat hp
  clear hat hoff hp
  match i with
   | 0|4=>cases ho;exact vna
   | 1=>cases ho;have:=tx 0 132;exact vna
   | 2=>cases ho;have:=tx 1 133;exact vna
   | 3=>cases ho;have:=tx 2 134;have d:=hGW.1.1.led.c1 0;exact vna
   | 5=>cases ho;have:=tx 4 136;obtain⟨d1,d2⟩:=hGW.1.2.1.cs 0 2;exact vna
   | 6=>
    exact Y40
   | 7=>cases ho;have:=tx 6 138;exact vna
   | 8|9=>cases ho;exact ofv 7 139
   | 10=>cases ho;have:=tx 7 139;exact vna
   | i+11=>exact absurd ho (by simp)
 case hend=>
  intro U W hGW hV
  have hr:U 10=.bool false:=hV 10 kd
  exact Y53
end
end
end Go.Proofs.Ytaipgdhdfpemcaa
