/- THE WALKS OF THE LANE, part 49. -/
import Derived.Test.YtaipgdhdfpemcaaF44
import Derived.Test.YtaipgdhdfpemcaaF47
import Derived.Test.YtaipgdhdfpemcaaF48
namespace Go.Proofs.Ytaipgdhdfpemcaa
set_option linter.all false
open Go.RowKit Go.Proofs.Try
set_option maxRecDepth 100000
set_option maxHeartbeats 4000000
section
variable {good:Bool} {data:ByteArray} {atE atN epoch site whE whN:Int} {ops:List OpC} {ec hc oc on pc pn:Nat} {S Sx:Nat->Prop} {eA hA oA pA:O}
theorem right9_eq (m:MailC):m.right9=(c32_9 m.term m.index m.prev m.commit m.good m.ents.length m.data m.hs.length m.whN m.whE m.holes.length&&(c34_9 m.epoch m.site m.atN m.atE m.whN m.whE&&shipB m.epoch m.atN m.atE m.ops)):=by
 unfold MailC.right9 pre1 chk8 c32_9 c34_9
 generalize placeB m.atN m.atE=b1
 generalize placeB m.whN m.whE=b2
 generalize shipB m.epoch m.atN m.atE m.ops=b3
 generalize m.good=b4
 rw [Bool.eq_iff_iff]
 have h910:((9:Int) != 10)=true:=by decide
 simp only [Bool.and_eq_true,decide_eq_true_eq,Bool.not_eq_true',h910,Bool.and_true]
 constructor
 ·rintro ⟨⟨h1,h2,h3,h4,h5⟩,⟨⟨h6,h7⟩,⟨h8,h9⟩,h10,h11,h12⟩,h13,h14,⟨h15,h16⟩,h17⟩
  refine⟨⟨⟨⟨⟨⟨⟨⟨⟨⟨h1,h2⟩,h3⟩,h4⟩,h12⟩,h5⟩,?_⟩,?_⟩,h15,h16⟩,h13⟩,⟨⟨⟨⟨⟨h6,h7⟩,h8⟩,h9⟩,h10⟩,h11⟩,h17⟩<;>omega
 ·rintro ⟨⟨⟨⟨⟨⟨⟨⟨⟨⟨h1,h2⟩,h3⟩,h4⟩,h12⟩,h5⟩,h18⟩,h19⟩,h15,h16⟩,h13⟩,⟨⟨⟨⟨⟨h6,h7⟩,h8⟩,h9⟩,h10⟩,h11⟩,h17⟩
  exact⟨⟨h1,h2,h3,h4,h5⟩,⟨⟨h6,h7⟩,⟨h8,h9⟩,h10,h11,h12⟩,h13,by omega,⟨h15,h16⟩,h17⟩
section
variable (w:World) (Q:Z) (a:Act) (mb:Nat)
include w Q a mb
theorem right27_9 (hfr:Fr 391 a [(1,mb),(3,.string ⟨#[69,115,97,79]⟩)]) (hQ:∀ a',Fr 391 a' [(1,mb),(3,.string ⟨#[69,115,97,79]⟩),(4,.map (some w.heap.size))]->Q .normal a' (w.alloc (.map #[] 0))) :
 (part [1,1,1,0] (codeOf rightF)).wp prog Q a w:=by
 exact Y169
section
variable (hfr:Fr 391 a [(1,mb)]) (hm:Blk w mb 30 (mailC 9 0 0 0 0 good eA 0 ec data hA 0 hc epoch site atN atE whN whE oA on oc pA pn pc)) (hQ:∀ a',Fr 391 a' [(1,mb)]->Q .normal a' w)
include hfr hm hQ
theorem right38_9:(part [1,1,1,1,1,1,1,1,0] (codeOf rightF)).wp prog Q a w:=by
 exact Y86
theorem right43_9:(part [1,1,1,1,1,1,1,1,1,0] (codeOf rightF)).wp prog Q a w:=by
 exact Y87
end
end
theorem right48_9 (w:World) (R:Ending->World->Prop) (Q:Z) (a:Act) (mb:Nat) (hfr:Fr 391 a [(1,mb)]) (hm:Blk w mb 30 (mailC 9 0 0 0 0 good eA 0 ec data hA 0 hc epoch site atN atE whN whE oA on oc pA pn pc)) (ho:OpsIs w Sx pA pn pc ops) (hz:pn<=4294967296) (hok:∀ o∈ops,o.Ok) (hR:∀ w',Below w w w'->R (.returned (.bool (shipB epoch atN atE ops))) w') (hq:∀ a w,bodyPost prog rightF R .ret a w->Q .ret a w):(part [1,1,1,1,1,1,1,1,1,1,0] (codeOf rightF)).wp prog Q a w:=by
 obtain⟨HR,HQ⟩:=J2 hR hq
 have HS:=J (ships_any (kind:=9) (term:=0) (index:=0) (prev:=0) (commit:=0) (good:=good) (eA:=eA) (en:=0) (ec:=ec) (data:=data) (hA:=hA) (hn:=0) (hc:=hc) (epoch:=epoch) (site:=site) (atN:=atN) (atE:=atE) (whN:=whN) (whE:=whE) (oA:=oA) (on:=on) (oc:=oc) w ho hz hok)
 obtain⟨d0,d1,d2,d3,d4,d5,d6,d7,d8,d9,d10,d11,d12,d13,d14,d15,d16⟩:=hm.cs 0 17
 clear hR hq hm ho hz hok
 refine gg hfr fun t=>?_
 go_wp2_with fail
 refine HS.out.mono ?_
 rintro e w2 ⟨rfl,hb⟩
 have HB:=J hb
 clear hb d0 d1 d2 d3 d4 d5 d6 d7 d8 d9 d10 d11 d12 d13 d14 d15 d16
 go_wp2_with fail
 refine HQ.out _ _ (bodyPost_ret (results_tmp rfl _ _ _) rfl ?_)
 exact HR.out _ HB.out
theorem right_tail0_9 (w0 w:World) (b:Bool) (a:Act) (mb g:Nat) (hfr:Fr 391 a [(1,mb),(4,.map (some g))]) (hn:NamedIs w g [79,97,115,69]) (hm:Blk w mb 30 (mailC 9 0 0 0 0 good eA 0 ec data hA 0 hc epoch site atN atE whN whE oA on oc pA pn pc)) (ho:OpsIs w Sx pA pn pc ops) (hz:pn<=4294967296) (hok:∀ o∈ops,o.Ok) (hb:Below w0 w0 w) (hres:b=(c34_9 epoch site atN atE whN whE&&shipB epoch atN atE ops)) :
 (part [1,1,1,1,1,1] (codeOf rightF)).wp prog (bodyPost prog rightF fun e w'=>e=.returned (.bool b)/\Below w0 w0 w') a w:=by
 refine Ytaipgdhdfpemcaa.w2 ?_
 refine Ytaipgdhdfpemcaa.w2 ?_
 refine right34_9 w _ a mb g hfr hn hm fun a1 w1 f1 m1 b1=>?_
 have hF1:Fr 391 a1 [(1,mb)]:=⟨f1.1,f1.2.1,f1.2.2.1,trivial⟩
 have hb1:=hb.trans (b1.mono hb.size)
 show (part [1,1,1,1,1,1,0,1] (codeOf rightF)).wp prog (Exit.then ((part [1,1,1,1,1,1,1] (codeOf rightF)).wp prog (bodyPost prog rightF fun e w'=>e=.returned (.bool b)/\Below w0 w0 w')) (bodyPost prog rightF fun e w'=>e=.returned (.bool b)/\Below w0 w0 w')) a1 w1
 refine wp_if (x:=part [1,1,1,1,1,1,0,1,0] (codeOf rightF)) (y:=part [1,1,1,1,1,1,0,1,1] (codeOf rightF)) (o:=.tmp 260) kr (eval_at f1.2.2.2.1 rfl) (fun ht=>?_) (fun ht=>?_)
 ·have hc:c34_9 epoch site atN atE whN whE=false:=by simpa using ht
  exact Y165
 have hc34:c34_9 epoch site atN atE whN whE=true:=by simpa using ht
 refine wp_nop kr ?_
 show (part [1,1,1,1,1,1,1] (codeOf rightF)).wp prog (bodyPost prog rightF fun e w'=>e=.returned (.bool b)/\Below w0 w0 w') a1 w1
 refine Ytaipgdhdfpemcaa.w2 ?_
 refine Ytaipgdhdfpemcaa.w2 ?_
 refine right36_9 w1 _ a1 mb hF1 m1 fun a2 w2 f2 m2 b2=>?_
 have hF2:Fr 391 a2 [(1,mb)]:=⟨f2.1,f2.2.1,f2.2.2.1,trivial⟩
 have hb2:=hb1.trans (b2.mono hb1.size)
 show (part [1,1,1,1,1,1,1,0,1] (codeOf rightF)).wp prog (Exit.then ((part [1,1,1,1,1,1,1,1] (codeOf rightF)).wp prog (bodyPost prog rightF fun e w'=>e=.returned (.bool b)/\Below w0 w0 w')) (bodyPost prog rightF fun e w'=>e=.returned (.bool b)/\Below w0 w0 w')) a2 w2
 refine wp_if (x:=part [1,1,1,1,1,1,1,0,1,0] (codeOf rightF)) (y:=part [1,1,1,1,1,1,1,0,1,1] (codeOf rightF)) (o:=.tmp 292) kr (eval_at f2.2.2.2.1 rfl) (fun ht=>?_) (fun ht=>?_)
 ·cases ht
 refine wp_nop kr ?_
 show (part [1,1,1,1,1,1,1,1] (codeOf rightF)).wp prog (bodyPost prog rightF fun e w'=>e=.returned (.bool b)/\Below w0 w0 w') a2 w2
 refine Ytaipgdhdfpemcaa.w2 ?_
 refine right38_9 w2 _ a2 mb hF2 m2 fun a3 f3=>?_
 show (part [1,1,1,1,1,1,1,1,1] (codeOf rightF)).wp prog (bodyPost prog rightF fun e w'=>e=.returned (.bool b)/\Below w0 w0 w') a3 w2
 refine Ytaipgdhdfpemcaa.w2 ?_
 refine right43_9 w2 _ a3 mb f3 m2 fun a4 f4=>?_
 show (part [1,1,1,1,1,1,1,1,1,1] (codeOf rightF)).wp prog (bodyPost prog rightF fun e w'=>e=.returned (.bool b)/\Below w0 w0 w') a4 w2
 refine Ytaipgdhdfpemcaa.w2 ?_
 exact right48_9 w2 (fun e w'=>e=.returned (.bool b)/\Below w0 w0 w') _ a4 mb f4 m2 ((ho.below b1).below b2) hz hok (fun w' hb'=>⟨by rw [hres,hc34];rfl,hb2.trans (hb'.mono hb2.size)⟩) fun _ _ hq=>hq
theorem right_tail_9 (w0 w:World) (m:MailC) (cells:Array Value) (a:Act) (mb:Nat) (hfr:Fr 391 a [(1,mb),(3,.string ⟨#[69,115,97,79]⟩)]) (hk:m.kind=9) (hm:Blk w mb 30 cells) (hs:MailIs w S cells m) (hok:m.Ok) (hpz:m.ops.length<=4294967296) (hb:Below w0 w0 w) :
 (part [1,1,1] (codeOf rightF)).wp prog (bodyPost prog rightF fun e w'=>e=.returned (.bool m.right9)/\Below w0 w0 w') a w:=by
 obtain⟨kind,term,index,prev,commit,good,ents,data,hs',epoch,site,atN,atE,whN,whE,holes,ops⟩:=m
 simp only at hk hpz
 subst hk
 have hres:=right9_eq ⟨9,term,index,prev,commit,good,ents,data,hs',epoch,site,atN,atE,whN,whE,holes,ops⟩
 simp only at hres
 obtain⟨eA,en,ec,hA,hn,hc,oA,on,oc,pA,pn,pc,rfl,h1,h2,h3,h4⟩:=hs
 have l1:=h1.len
 have l2:=h2.len
 have l3:=h3.len
 have l4:=h4.len
 have hopk:∀ o∈ops,o.Ok:=hok.op
 simp only at l1 l2 l3 l4 h4
 have hz:pn<=4294967296:=by omega
 rw [l1,l2,l3] at hres
 simp only at h3 hm
 clear h1 h2 hok l1 l2 l3 l4
 obtain⟨r,hr⟩:∃ r,r=(⟨9,term,index,prev,commit,good,ents,data,hs',epoch,site,atN,atE,whN,whE,holes,ops⟩:MailC).right9:=⟨_,rfl⟩
 rw [<-hr] at hres ⊢
 clear hr
 refine Ytaipgdhdfpemcaa.w2 ?_
 refine right27_9 w _ a mb hfr fun a1 f1=>?_
 have hba:Below w w (w.alloc (.map #[] 0)):=(Below.refl _ _).alloc (Nat.le_refl _) _
 show (part [1,1,1,1] (codeOf rightF)).wp prog (bodyPost prog rightF fun e w'=>e=.returned (.bool r)/\Below w0 w0 w') a1 (w.alloc (.map #[] 0))
 refine Ytaipgdhdfpemcaa.w2 ?_
 refine right28_9 _ _ a1 mb w.heap.size f1 (World.ownsMap_made w _ _ _) fun a2 w2 f2 n2 b2=>?_
 have hb2:Below w w w2:=hba.trans b2
 have m2:=hm.below hb2 hm.lt
 have hbb:=hb.trans (hb2.mono hb.size)
 show (part [1,1,1,1,1] (codeOf rightF)).wp prog (bodyPost prog rightF fun e w'=>e=.returned (.bool r)/\Below w0 w0 w') a2 w2
 refine Ytaipgdhdfpemcaa.w2 ?_
 refine Ytaipgdhdfpemcaa.w2 ?_
 refine right32_9 w2 _ a2 mb w.heap.size f2 n2 m2 fun a3 f3=>?_
 show (part [1,1,1,1,1,0,1] (codeOf rightF)).wp prog (Exit.then ((part [1,1,1,1,1,1] (codeOf rightF)).wp prog (bodyPost prog rightF fun e w'=>e=.returned (.bool r)/\Below w0 w0 w')) (bodyPost prog rightF fun e w'=>e=.returned (.bool r)/\Below w0 w0 w')) a3 w2
 refine wp_if (x:=part [1,1,1,1,1,0,1,0] (codeOf rightF)) (y:=part [1,1,1,1,1,0,1,1] (codeOf rightF)) (o:=.tmp 186) kr (eval_at f3.2.2.2.2.1 rfl) (fun ht=>?_) (fun ht=>?_)
 ·have hc:c32_9 term index prev commit good en data hn whN whE on=false:=by simpa using ht
  exact Y137
 have hc:c32_9 term index prev commit good en data hn whN whE on=true:=by simpa using ht
 rw [hc,Bool.true_and] at hres
 simp only [c32_9,Bool.and_eq_true,decide_eq_true_eq] at hc
 obtain⟨⟨⟨⟨⟨⟨⟨⟨⟨rfl,rfl⟩,rfl⟩,rfl⟩,_⟩,rfl⟩,_⟩,rfl⟩,_⟩,_⟩:=hc
 refine wp_nop kr ?_
 exact right_tail0_9 w0 w2 r a3 mb w.heap.size ⟨f3.1,f3.2.1,f3.2.2.1,f3.2.2.2.1,trivial⟩ n2 m2 (h4.below hb2) hz hopk hbb hres
theorem rright9_any (cells:Array Value) (m:MailC) (w:World) (hk:m.kind=9) (hm:MailIs w S cells m) (hok:m.Ok) (hpz:m.ops.length<=4294967296) :
 Calls prog 64 #[.agg cells] w fun e w'=>e=.returned (.bool m.right9)/\Below w w w':=by
 obtain⟨kind,term,index,prev,commit,good,ents,data,hs',epoch,site,atN,atE,whN,whE,holes,ops⟩:=m
 simp only at hk hpz
 subst hk
 have hm0:=hm
 obtain⟨eA,en,ec,hA,hn,hc,oA,on,oc,pA,pn,pc,rfl,_⟩:=hm0
 have hbl:Below w w (w.alloc (.cells (mailC 9 term index prev commit good eA en ec data hA hn hc epoch site atN atE whN whE oA on oc pA pn pc) 30)):=(Below.refl _ _).alloc (Nat.le_refl _) _
 have hbk:=Blk.new w 30 (mailC 9 term index prev commit good eA en ec data hA hn hc epoch site atN atE whN whE oA on oc pA pn pc)
 have c0:=hbk.c1 0
 have HM:=J (hm.below hbl)
 obtain⟨HB,HK,HOK,HPZ⟩:=J4 hbl hbk hok hpz
 clear hm hok hbl hbk hpz
 go_enter func64,ntmps64
 conv=>arg 2;arg 2;arg 2;arg 2;change part [1,1,1] (codeOf rightF)
 go_wp2_with fail
 exact right_tail_9 w _ _ _ _ w.heap.size ff rfl HK.out HM.out HOK.out HPZ.out HB.out
end
section
variable {T:Array Value} {good x5:Bool} {data x7 y9:ByteArray} {aE aN commit epoch fence index kind n prev site st term whE whN x0 x1 x10 x11 x12 x13 x14 x2 x3 x4 x9 y0 y1 y10 y12 y13 y15 y2 y3 y4 y5 y6 y7 y8:Int} {ops os:List OpC} {m:MailC} {b b4 b6 b7 c ec en hc hn lc ln oc on pc pn x15c x15n x16c x16n x6c x6n x8c x8n y11c y11n y14c y14n:Nat} {Sx:Nat->Prop} {A eA hA lA oA pA x15 x16 x6 x8 y11 y14:O} {W:World} {Q:Z}
theorem rmeet_results (h6:T[6]?.getD undef=.pointer (some ⟨b6,0,none⟩)) (h7:T[7]?.getD undef=.pointer (some ⟨b7,0,none⟩)) (h8:T[8]?.getD undef=.int .i64 n) (hm:Blk W b6 30 #[x0,x1,x2,x3,x4,x5,.slice x6 x6n x6c,.string x7,.slice x8 x8n x8c,x9,x10,x11,x12,x13,x14,.slice x15 x15n x15c,.slice x16 x16n x16c]) (hc:Blk W b7 47 #[y0,y1,y2,y3,y4,y5,y6,y7,y8,.string y9,y10,.slice y11 y11n y11c,y12,y13,.slice y14 y14n y14c,y15]) :
 (results Try.f18 T).run prog W=.ok (.tuple #[.agg #[x0,x1,x2,x3,x4,x5,.slice x6 x6n x6c,.string x7,.slice x8 x8n x8c,x9,x10,x11,x12,x13,x14,.slice x15 x15n x15c,.slice x16 x16n x16c],.agg #[y0,y1,y2,y3,y4,y5,y6,y7,y8,.string y9,y10,.slice y11 y11n y11c,y12,y13,.slice y14 y14n y14c,y15],.int .i64 n]) W:=by
 obtain⟨d0,d1,d2,d3,d4,d5,d6,d7,d8,d9,d10,d11,d12,d13,d14,d15,d16⟩:=hm.cs 0 17
 obtain⟨k0,k1,k2,k3,k4,k5,k6,k7,k8,k9,k10,k11,k12,k13,k14,k15⟩:=hc.cs 0 16
 clear hm hc
 simp [results,results18,h6,h7,h8,d0,d1,d2,d3,d4,d5,d6,d7,d8,d9,d10,d11,d12,d13,d14,d15,d16,k0,k1,k2,k3,k4,k5,k6,k7,k8,k9,k10,k11,k12,k13,k14,k15,go_sem]
theorem rmprop (R:Ending->World->Prop) (B:Nat) (W0:World) (a:Act) (w:World) (b4 b6 b7:Nat) (hfr:Fr 161 a [(4,b4),(6,b6),(7,b7)]) (h4:Blk w b4 30 (mailC kind term index prev commit good eA en ec data hA hn hc epoch site aN aE whN whE oA on oc pA pn pc)) (ho:OpsIs w Sx pA pn pc ops) (hz:pn<=4294967296) (hok:∀ o∈ops,o.Ok) (h6:∃ cs,Blk w b6 30 cs/\cs.size=17) (h7:∃ cs,Blk w b7 47 cs/\cs.size=16) (hne:b6≠b7/\b4≠b6/\b4≠b7/\¬ Sx b6/\¬ Sx b7) (hlo:B<=b6/\B<=b7) (hb:Below B W0 w) (hR:∀ A' c' w',Below B W0 w'->OpsIs w' (From B) A' pn c' ops->R (.returned (.tuple #[.agg noMail,.agg #[.int .i64 3,.int .i64 epoch,.int .i64 site,.int .i64 0,.int .i64 0,.int .i64 0,.int .i64 0,.int .i64 0,.int .i64 0,.string ⟨#[]⟩,.int .i64 0,.slice none 0 0,.int .i64 aN,.int .i64 aE,.slice A' pn c',.int .i64 0],.int .i64 2])) w') :
 (part [1,1,1,1,1,1,1,1,1] (codeOf rmeetF)).wp prog (bodyPost prog rmeetF R) a w:=by
 obtain⟨cs6,k6,z6⟩:=h6
 obtain⟨cs7,k7,z7⟩:=h7
 have hbb:b6<w.drew.heap.size/\b7<w.drew.heap.size/\B<=b6:=⟨k6.lt,k7.lt,hlo.1⟩
 have hg:(Blk w.drew b4 30 (mailC kind term index prev commit good eA en ec data hA hn hc epoch site aN aE whN whE oA on oc pA pn pc)/\OpsIs w.drew Sx pA pn pc ops/\Below B W0 w.drew/\w.drew.heap.size<=w.drew.heap.size)/\(∃ cs,Blk w.drew b6 30 cs/\cs.size=17)/\(∃ cs,Blk w.drew b7 47 cs/\cs.size=16):=
  ⟨⟨h4,ho.below ⟨rfl,rfl,rfl,Nat.le_refl _,fun _ _=>rfl⟩,hb.drew,Nat.le_refl _⟩,⟨cs6,k6,z6⟩,⟨cs7,k7,z7⟩⟩
 refine w2 ?_
 obtain⟨w0,hw0⟩:∃ w0,w0=w.drew:=⟨_,rfl⟩
 rw [<-hw0] at hg hbb
 obtain⟨HG0,HBB,HZ,HOK,HNE,HLO,HR⟩:=J7 hg hbb hz hok hne hlo hR
 clear h4 ho hz hok k6 k7 z6 z7 hne hlo hb hR hg hbb
 refine gg hfr fun t=>?_
 generalize w=w1 at hw0 ⊢
 have HW0:=J hw0
 clear hw0
 refine wp_region_all kr (fun i v W=>match i with|0=>v=.agg noMail|1=>v=.pointer (some ⟨b4,9,none⟩)|2=>v=epoch|3=>v=.pointer (some ⟨b4,10,none⟩)|4=>v=site|5=>v=.pointer (some ⟨b4,11,none⟩)|6=>v=.pointer (some ⟨b4,11,none⟩)|7=>v=aN|8=>v=.pointer (some ⟨b4,11,none⟩)|9=>v=.pointer (some ⟨b4,12,none⟩)|10=>v=aE|11=>v=.pointer (some ⟨b4,16,none⟩)|12=>v=.slice pA pn pc|13=>∃ A' c',v=.slice A' pn c'/\OpsIs W (From w0.heap.size) A' pn c' ops|14=>∃ A' c',v=.agg #[.int .i64 3,.int .i64 epoch,.int .i64 site,.int .i64 0,.int .i64 0,.int .i64 0,.int .i64 0,.int .i64 0,.int .i64 0,.string ⟨#[]⟩,.int .i64 0,.slice none 0 0,.int .i64 aN,.int .i64 aE,.slice A' pn c',.int .i64 0]/\OpsIs W (From w0.heap.size) A' pn c' ops|15=>Blk W b6 30 noMail|16=>∃ A' c',Blk W b7 47 #[.int .i64 3,.int .i64 epoch,.int .i64 site,.int .i64 0,.int .i64 0,.int .i64 0,.int .i64 0,.int .i64 0,.int .i64 0,.string ⟨#[]⟩,.int .i64 0,.slice none 0 0,.int .i64 aN,.int .i64 aE,.slice A' pn c',.int .i64 0]/\OpsIs W (From w0.heap.size) A' pn c' ops|17=>v=.int .i64 2|_=>True) (fun W=>(Blk W b4 30 (mailC kind term index prev commit good eA en ec data hA hn hc epoch site aN aE whN whE oA on oc pA pn pc)/\OpsIs W Sx pA pn pc ops/\Below B W0 W/\w0.heap.size<=W)/\(∃ cs,Blk W b6 30 cs/\cs.size=17)/\(∃ cs,Blk W b7 47 cs/\cs.size=16)) (fun W W'=>Kept (But b6 b7) W W'/\(Blk W b6 30 noMail->Blk W' b6 30 noMail)/\((∃ A' c',Blk W b7 47 #[.int .i64 3,.int .i64 epoch,.int .i64 site,.int .i64 0,.int .i64 0,.int .i64 0,.int .i64 0,.int .i64 0,.int .i64 0,.string ⟨#[]⟩,.int .i64 0,.slice none 0 0,.int .i64 aN,.int .i64 aE,.slice A' pn c',.int .i64 0]/\OpsIs W (From w0.heap.size) A' pn c' ops)->∃ A' c',Blk W' b7 47 #[.int .i64 3,.int .i64 epoch,.int .i64 site,.int .i64 0,.int .i64 0,.int .i64 0,.int .i64 0,.int .i64 0,.int .i64 0,.string ⟨#[]⟩,.int .i64 0,.slice none 0 0,.int .i64 aN,.int .i64 aE,.slice A' pn c',.int .i64 0]/\OpsIs W' (From w0.heap.size) A' pn c' ops)) kr ?hG ?hmono ?hstep ?hend
 case hG=>exact (show ∀ W,W=w0->(fun W=>(Blk W b4 30 (mailC kind term index prev commit good eA en ec data hA hn hc epoch site aN aE whN whE oA on oc pA pn pc)/\OpsIs W Sx pA pn pc ops/\Below B W0 W/\w0.heap.size<=W)/\(∃ cs,Blk W b6 30 cs/\cs.size=17)/\(∃ cs,Blk W b7 47 cs/\cs.size=16)) W from fun W h=>by rw [h];exact HG0.out) _ HW0.out.symm
 case hmono=>
  intro i v W W' hx hv
  match i with
  | 13=>
   exact Y26
  | 14=>
   exact Y26
  | 15=>
   exact hx.2.1 hv
  | 16=>
   exact hx.2.2 hv
  | 0|1|2|3|4|5|6|7|8|9|10|11|12|17=>exact hv
  | i+18=>exact hv
 case hstep=>
  intro i o F U W ho hGW hat hoff hp
  have hrefl:=fun W:World=>(⟨Kept.refl _ _,fun h=>h,fun h=>h⟩:Kept (But b6 b7) W W/\(Blk W b6 30 noMail->Blk W b6 30 noMail)/\((∃ A' c',Blk W b7 47 #[.int .i64 3,.int .i64 epoch,.int .i64 site,.int .i64 0,.int .i64 0,.int .i64 0,.int .i64 0,.int .i64 0,.int .i64 0,.string ⟨#[]⟩,.int .i64 0,.slice none 0 0,.int .i64 aN,.int .i64 aE,.slice A' pn c',.int .i64 0]/\OpsIs W (From w0.heap.size) A' pn c' ops)->∃ A' c',Blk W b7 47 #[.int .i64 3,.int .i64 epoch,.int .i64 site,.int .i64 0,.int .i64 0,.int .i64 0,.int .i64 0,.int .i64 0,.int .i64 0,.string ⟨#[]⟩,.int .i64 0,.slice none 0 0,.int .i64 aN,.int .i64 aE,.slice A' pn c',.int .i64 0]/\OpsIs W (From w0.heap.size) A' pn c' ops))
  have:=ot 4 b4
  have e6:=oo 6 b6
  have t6:=act_tmp e6
  have e7:=oo 7 b7
  have t7:=act_tmp e7
  obtain⟨qa,qb⟩:=J2 hat hp
  clear hat hoff hp
  match i with
   | 0|1|3|5|8|11|17=>cases ho;exact vna
   | 2=>cases ho;have:=tx 1 147;have d:=hGW.1.1.c1 9;exact vna
   | 4=>cases ho;have:=tx 3 149;have d:=hGW.1.1.c1 10;exact vna
   | 6=>cases ho;have:=tx 5 151;exact vna
   | 7=>cases ho;have:=tx 6 152;have d:=hGW.1.1.c1 11;exact vna
   | 9=>cases ho;have:=tx 8 154;exact vna
   | 10=>cases ho;have:=tx 9 155;have d:=hGW.1.1.c1 12;exact vna
   | 12=>cases ho;have:=tx 11 157;have d:=hGW.1.1.c1 16;exact vna
   | 13=>
    cases ho;refine on_ (wanted_none rfl) ?_;have:=tx 12 158
    refine wp_enter' 34 #[.slice pA pn pc] (by unfold execOp;go_simp) ?_
    refine (ownOps_any pA pn pc ops W hGW.1.2.1 HZ.out HOK.out).mono ?_
    exact Y36
   | 14=>
    cases ho;refine on_ (wanted_none rfl) ?_;have:=tx 2 148;have:=tx 4 150;have:=tx 7 153;have:=tx 10 156;have e159:=qa.out 13 159 kd rfl
    have v159:=qb.out ⟨13,.data⟩ (by simp) rfl
    obtain⟨A',c',hu,hi⟩:=v159;rw [hu] at e159;have t159:=act_tmp e159
    exact Y74
   | 15=>
    cases ho;refine on_ (wanted_none rfl) ?_;have:=tx 0 146;have e146:=ev qa qb 0 146;obtain⟨⟨g1,g2,g3,g4⟩,⟨cs,g5,g6⟩,⟨cs',g7,g8⟩⟩:=hGW;obtain⟨l,hl⟩:∃ l,l=noMail.toList:=⟨_,rfl⟩
    have hla:l.toArray=noMail:=by rw [hl]
    have hll:l.length=17:=by rw [hl];rfl
    have hn:=g5.setCells_ l (by rw [g6,hll])
    rw [hla] at hn;have hsv:=save_setCells W b6 0 l;have hsz:=size_setCells W b6 0 l
    have hkb:Kept (But b6 b7) W (W.setCells b6 0 l):=(Kept.refl _ _).cells _ _ (.inl fun h=>h.1 rfl) _
    have hg1:=hsv.blk g1 HNE.out.2.1;have hg2:OpsIs (W.setCells b6 0 l) Sx pA pn pc ops:=g2.kept ((Kept.refl _ _).cells _ _ (.inl HNE.out.2.2.2.1) _);have hg3:Below B W0 (W.setCells b6 0 l):=below_setCells HLO.out.1 g3 _ _;have hg7:=hsv.blk g7 (Ne.symm HNE.out.1)
    have hf2:(∃ A' c',Blk W b7 47 #[.int .i64 3,.int .i64 epoch,.int .i64 site,.int .i64 0,.int .i64 0,.int .i64 0,.int .i64 0,.int .i64 0,.int .i64 0,.string ⟨#[]⟩,.int .i64 0,.slice none 0 0,.int .i64 aN,.int .i64 aE,.slice A' pn c',.int .i64 0]/\OpsIs W (From w0.heap.size) A' pn c' ops)->∃ A' c',Blk (W.setCells b6 0 l) b7 47 #[.int .i64 3,.int .i64 epoch,.int .i64 site,.int .i64 0,.int .i64 0,.int .i64 0,.int .i64 0,.int .i64 0,.int .i64 0,.string ⟨#[]⟩,.int .i64 0,.slice none 0 0,.int .i64 aN,.int .i64 aE,.slice A' pn c',.int .i64 0]/\OpsIs (W.setCells b6 0 l) (From w0.heap.size) A' pn c' ops:=by
     exact Y93
    refine wp_store_mid 30 (.tmp 6) (.tmp 146) rfl b6 0 noMail e6 e146 (g5.there_ 0 _ (by rw [g6];exact Nat.le_refl _)) Try.sizeMail noMail_one ?_
    exact Y73
   | 16=>
    cases ho;refine on_ (wanted_none rfl) ?_;have e160:=qa.out 14 160 kd rfl
    have v160:=qb.out ⟨14,.data⟩ (by simp) rfl
    obtain⟨A',c',hu,hi⟩:=v160;rw [hu] at e160;obtain⟨⟨g1,g2,g3,g4⟩,⟨cs,g5,g6⟩,⟨cs',g7,g8⟩⟩:=hGW;obtain⟨l,hl⟩:∃ l,l=(#[.int .i64 3,.int .i64 epoch,.int .i64 site,.int .i64 0,.int .i64 0,.int .i64 0,.int .i64 0,.int .i64 0,.int .i64 0,.string ⟨#[]⟩,.int .i64 0,.slice none 0 0,.int .i64 aN,.int .i64 aE,.slice A' pn c',.int .i64 0]:Array Value).toList:=⟨_,rfl⟩
    have hla:l.toArray=#[.int .i64 3,.int .i64 epoch,.int .i64 site,.int .i64 0,.int .i64 0,.int .i64 0,.int .i64 0,.int .i64 0,.int .i64 0,.string ⟨#[]⟩,.int .i64 0,.slice none 0 0,.int .i64 aN,.int .i64 aE,.slice A' pn c',.int .i64 0]:=by rw [hl]
    have hll:l.length=16:=by rw [hl];rfl
    have hn:=g7.setCells_ l (by rw [g8,hll])
    rw [hla] at hn;have hsv:=save_setCells W b7 0 l;have hsz:=size_setCells W b7 0 l
    have hkb:Kept (But b6 b7) W (W.setCells b7 0 l):=(Kept.refl _ _).cells _ _ (.inl fun h=>h.2 rfl) _
    have hi':OpsIs (W.setCells b7 0 l) (From w0.heap.size) A' pn c' ops:=hi.kept ⟨hkb.1,fun b k1 k2=>hkb.2 b ⟨by have:w0.heap.size<=b:=k1;have:=HBB.out;omega,by have:w0.heap.size<=b:=k1;have:=HBB.out;omega⟩ k2⟩
    have hg1:=hsv.blk g1 HNE.out.2.2.1;have hg2:OpsIs (W.setCells b7 0 l) Sx pA pn pc ops:=g2.kept ((Kept.refl _ _).cells _ _ (.inl HNE.out.2.2.2.2) _);have hg3:Below B W0 (W.setCells b7 0 l):=below_setCells HLO.out.2 g3 _ _;have hg5:=hsv.blk g5 HNE.out.1
    have hg6:Blk W b6 30 noMail->Blk (W.setCells b7 0 l) b6 30 noMail:=fun h=>hsv.blk h HNE.out.1
    refine wp_store_mid 47 (.tmp 7) (.tmp 160) rfl b7 0 #[.int .i64 3,.int .i64 epoch,.int .i64 site,.int .i64 0,.int .i64 0,.int .i64 0,.int .i64 0,.int .i64 0,.int .i64 0,.string ⟨#[]⟩,.int .i64 0,.slice none 0 0,.int .i64 aN,.int .i64 aE,.slice A' pn c',.int .i64 0] e7 e160 (g7.there_ 0 _ (by rw [g8];exact Nat.le_refl _)) Try.sizeCmd propCells_one ?_
    exact Y31
   | i+18=>exact absurd ho (by simp)
 case hend=>
  intro U W hGW hV
  have hk6:Blk W b6 30 noMail:=hV 15 kd
  obtain⟨A',c',hk7,hi⟩:∃ A' c',Blk W b7 47 #[.int .i64 3,.int .i64 epoch,.int .i64 site,.int .i64 0,.int .i64 0,.int .i64 0,.int .i64 0,.int .i64 0,.int .i64 0,.string ⟨#[]⟩,.int .i64 0,.slice none 0 0,.int .i64 aN,.int .i64 aE,.slice A' pn c',.int .i64 0]/\OpsIs W (From w0.heap.size) A' pn c' ops:=hV 16 kd
  have h8:U 17=.int .i64 2:=hV 17 kd
  obtain⟨HK6,HK7,HI,HB⟩:=J4 hk6 hk7 hi hGW.1.2.2.1
  clear hV hGW hk6 hk7 hi
  refine wp_ret ?_
  refine bodyPost_ret (rmeet_results (b6:=b6) (b7:=b7) (by simp [putU,dstAt,Act.put]) (by simp [putU,dstAt,Act.put]) (by simp [putU,dstAt,Act.put];exact h8) HK6.out HK7.out) (by simp [putU,dstAt,Act.put]) ?_
  exact Y182
theorem rm7 {n:Nat} (R:Ending->World->Prop) (hret:∀ a w,bodyPost prog rmeetF R .ret a w->Q .ret a w) (B:Nat) (W0:World) (a:Act) (w:World) (b5 b6 b7:Nat) (hfr:Fr 161 a [(0,b),(4,b4),(5,b5),(6,b6),(7,b7)]) (h:Rg w b b4 Sx A n c os lA ln lc fence st (mailC m.kind m.term m.index m.prev m.commit m.good eA en ec m.data hA hn hc m.epoch m.site m.atN m.atE m.whN m.whE oA on oc pA pn pc)) (hz:n<=4294967296) (h6:∃ cs,Blk w b6 30 cs/\cs.size=17) (h7:∃ cs,Blk w b7 47 cs/\cs.size=16) (hne:b6≠b7/\b≠b6/\b≠b7/\b4≠b6/\b4≠b7/\¬ Sx b6/\¬ Sx b7) (hlo:B<=b6/\B<=b7) (hb:Below B W0 w) (hR:∀ w',Below B W0 w'->R (.returned (.tuple #[.agg (mailC 10 0 0 0 0 false none 0 0 ⟨#[]⟩ none 0 0 m.epoch 0 (Seam.hintN (os.map (·.epoch)) m.atN m.atE:Nat) (Seam.ep (os.map (·.epoch)) (Seam.hintN (os.map (·.epoch)) m.atN m.atE)) 0 0 none 0 0 none 0 0),.agg noCmd,.int .i64 1])) w') :
 (part [1,1,1,1,0,1,0] (codeOf rmeetF)).wp prog Q a w:=by
 obtain⟨cs6,k6,z6⟩:=h6
 obtain⟨cs7,k7,z7⟩:=h7
 have hbb:b6<w.drew.heap.size/\b7<w.drew.heap.size/\B<=b6:=⟨k6.lt,k7.lt,hlo.1⟩
 have hg:(Rg w.drew b b4 Sx A n c os lA ln lc fence st (mailC m.kind m.term m.index m.prev m.commit m.good eA en ec m.data hA hn hc m.epoch m.site m.atN m.atE m.whN m.whE oA on oc pA pn pc)/\Below B W0 w.drew/\w.drew.heap.size<=w.drew.heap.size)/\(∃ cs,Blk w.drew b6 30 cs/\cs.size=17)/\(∃ cs,Blk w.drew b7 47 cs/\cs.size=16):=
  ⟨⟨h.drew,hb.drew,Nat.le_refl _⟩,⟨cs6,k6,z6⟩,⟨cs7,k7,z7⟩⟩
 refine w2 ?_
 obtain⟨w0,hw0⟩:∃ w0,w0=w.drew:=⟨_,rfl⟩
 rw [<-hw0] at hg hbb
 obtain⟨HG0,HBB,HZ,HNE,HLO,HR,HRET⟩:=J7 hg hbb hz hne hlo hR hret
 clear h hz k6 k7 z6 z7 hne hlo hb hR hg hbb hret
 refine gg hfr fun t=>?_
 generalize w=w1 at hw0 ⊢
 have HW0:=J hw0
 clear hw0
 refine wp_region_all kr (fun i v W=>match i with|0=>v=.pointer (some ⟨b4,9,none⟩)|1=>v=m.epoch|2=>v=b|3=>v=b|4=>v=b|5=>v=.slice A n c|6=>∃ A' c',v=.slice A' n c'/\IntIs W (From w0.heap.size) A' n c' (os.map (·.epoch))|7=>v=.pointer (some ⟨b4,11,none⟩)|8=>v=.pointer (some ⟨b4,11,none⟩)|9=>v=m.atN|10=>v=.pointer (some ⟨b4,11,none⟩)|11=>v=.pointer (some ⟨b4,12,none⟩)|12=>v=m.atE|13=>v=.agg #[.int .i64 (Seam.hintN (os.map (·.epoch)) m.atN m.atE:Nat),.int .i64 (Seam.ep (os.map (·.epoch)) (Seam.hintN (os.map (·.epoch)) m.atN m.atE))]|14=>v=.agg (mailC 10 0 0 0 0 false none 0 0 ⟨#[]⟩ none 0 0 m.epoch 0 (Seam.hintN (os.map (·.epoch)) m.atN m.atE:Nat) (Seam.ep (os.map (·.epoch)) (Seam.hintN (os.map (·.epoch)) m.atN m.atE)) 0 0 none 0 0 none 0 0)|15=>v=.agg noCmd|16=>Blk W b6 30 (mailC 10 0 0 0 0 false none 0 0 ⟨#[]⟩ none 0 0 m.epoch 0 (Seam.hintN (os.map (·.epoch)) m.atN m.atE:Nat) (Seam.ep (os.map (·.epoch)) (Seam.hintN (os.map (·.epoch)) m.atN m.atE)) 0 0 none 0 0 none 0 0)|17=>Blk W b7 47 noCmd|18=>v=.int .i64 1|_=>True) (fun W=>(Rg W b b4 Sx A n c os lA ln lc fence st (mailC m.kind m.term m.index m.prev m.commit m.good eA en ec m.data hA hn hc m.epoch m.site m.atN m.atE m.whN m.whE oA on oc pA pn pc)/\Below B W0 W/\w0.heap.size<=W)/\(∃ cs,Blk W b6 30 cs/\cs.size=17)/\(∃ cs,Blk W b7 47 cs/\cs.size=16)) (fun W W'=>Kept (But b6 b7) W W'/\(Blk W b6 30 (mailC 10 0 0 0 0 false none 0 0 ⟨#[]⟩ none 0 0 m.epoch 0 (Seam.hintN (os.map (·.epoch)) m.atN m.atE:Nat) (Seam.ep (os.map (·.epoch)) (Seam.hintN (os.map (·.epoch)) m.atN m.atE)) 0 0 none 0 0 none 0 0)->Blk W' b6 30 (mailC 10 0 0 0 0 false none 0 0 ⟨#[]⟩ none 0 0 m.epoch 0 (Seam.hintN (os.map (·.epoch)) m.atN m.atE:Nat) (Seam.ep (os.map (·.epoch)) (Seam.hintN (os.map (·.epoch)) m.atN m.atE)) 0 0 none 0 0 none 0 0))/\(Blk W b7 47 noCmd->Blk W' b7 47 noCmd)) kr ?hG ?hmono ?hstep ?hend
 case hG=>exact (show ∀ W,W=w0->(fun W=>(Rg W b b4 Sx A n c os lA ln lc fence st (mailC m.kind m.term m.index m.prev m.commit m.good eA en ec m.data hA hn hc m.epoch m.site m.atN m.atE m.whN m.whE oA on oc pA pn pc)/\Below B W0 W/\w0.heap.size<=W)/\(∃ cs,Blk W b6 30 cs/\cs.size=17)/\(∃ cs,Blk W b7 47 cs/\cs.size=16)) W from fun W h=>by rw [h];exact HG0.out) _ HW0.out.symm
 case hmono=>
  intro i v W W' hx hv
  match i with
  | 6=>
   exact Y26
  | 16=>
   exact hx.2.1 hv
  | 17=>
   exact hx.2.2 hv
  | 0|1|2|3|4|5|7|8|9|10|11|12|13|14|15|18=>exact hv
  | i+19=>exact hv
 case hstep=>
  intro i o F U W ho hGW hat hoff hp
  have hrefl:=fun W:World=>(⟨Kept.refl _ _,fun h=>h,fun h=>h⟩:Kept (But b6 b7) W W/\(Blk W b6 30 (mailC 10 0 0 0 0 false none 0 0 ⟨#[]⟩ none 0 0 m.epoch 0 (Seam.hintN (os.map (·.epoch)) m.atN m.atE:Nat) (Seam.ep (os.map (·.epoch)) (Seam.hintN (os.map (·.epoch)) m.atN m.atE)) 0 0 none 0 0 none 0 0)->Blk W b6 30 (mailC 10 0 0 0 0 false none 0 0 ⟨#[]⟩ none 0 0 m.epoch 0 (Seam.hintN (os.map (·.epoch)) m.atN m.atE:Nat) (Seam.ep (os.map (·.epoch)) (Seam.hintN (os.map (·.epoch)) m.atN m.atE)) 0 0 none 0 0 none 0 0))/\(Blk W b7 47 noCmd->Blk W b7 47 noCmd))
  have:=ot 0 b
  have:=ot 4 b4
  have e6:=oo 6 b6
  have t6:=act_tmp e6
  have e7:=oo 7 b7
  have t7:=act_tmp e7
  obtain⟨qa,qb⟩:=J2 hat hp
  clear hat hoff hp
  match i with
   | 0|2|7|10|15|18=>cases ho;exact vna
   | 1=>cases ho;have:=tx 0 71;have d:=hGW.1.1.k4.c1 9;exact vna
   | 3=>cases ho;have:=tx 2 73;exact vna
   | 4=>cases ho;have:=tx 3 74;exact vna
   | 5=>cases ho;have:=tx 4 75;have d:=hGW.1.1.led.c1 0;exact vna
   | 6=>
    cases ho;refine on_ (wanted_none rfl) ?_;have:=tx 5 76
    refine wp_enter' 67 #[.slice A n c] (by unfold execOp;go_simp) ?_
    refine (repochs_any os W hGW.1.1.ops HZ.out).mono ?_
    rintro e W' ⟨A',c',rfl,hi,hb⟩
    have hs:=hGW.1.2.2;obtain⟨⟨g1,g3,g4⟩,⟨cs,g5,g6⟩,⟨cs',g7,g8⟩⟩:=hGW
    exact⟨_,rfl,_,rfl,⟨A',c',rfl,hi.mono fun b _ h=>(show w0.heap.size<=b from Nat.le_trans hs h)⟩,⟨⟨g1.below hb,g3.trans (hb.mono (by have:=HBB.out;omega)),Nat.le_trans hs hb.size⟩,⟨cs,g5.below hb g5.lt,g6⟩,⟨cs',g7.below hb g7.lt,g8⟩⟩,Kept.of _ hb,fun h=>h.below hb h.lt,fun h=>h.below hb h.lt⟩
   | 8=>cases ho;have:=tx 7 78;exact vna
   | 9=>cases ho;have:=tx 8 79;have d:=hGW.1.1.k4.c1 11;exact vna
   | 11=>cases ho;have:=tx 10 81;exact vna
   | 12=>cases ho;have:=tx 11 82;have d:=hGW.1.1.k4.c1 12;exact vna
   | 13=>
    cases ho;refine on_ (wanted_none rfl) ?_;have e77:=qa.out 6 77 kd rfl
    have v77:=qb.out ⟨6,.data⟩ (by simp) rfl
    have:=tx 9 80;have:=tx 12 83;obtain⟨A',c',hu,hi⟩:=v77;rw [hu] at e77;have t77:=act_tmp e77
    refine wp_enter' 66 #[.slice A' n c',m.atN,m.atE] (by unfold execOp;go_simp) ?_
    refine (refHint_any A' n c' _ W hi.1.reads HZ.out m.atN m.atE).mono ?_
    rintro e W' ⟨rfl,hb⟩
    have hs:=hGW.1.2.2;obtain⟨⟨g1,g3,g4⟩,⟨cs,g5,g6⟩,⟨cs',g7,g8⟩⟩:=hGW
    exact⟨_,rfl,_,rfl,rfl,⟨⟨g1.below hb,g3.trans (hb.mono (by have:=HBB.out;omega)),Nat.le_trans hs hb.size⟩,⟨cs,g5.below hb g5.lt,g6⟩,⟨cs',g7.below hb g7.lt,g8⟩⟩,Kept.of _ hb,fun h=>h.below hb h.lt,fun h=>h.below hb h.lt⟩
   | 14=>cases ho;have:=tx 1 72;have:=tx 13 84;exact vna
   | 16=>
    cases ho;refine on_ (wanted_none rfl) ?_;have e85:=ev qa qb 14 85;have t85:=act_tmp e85;obtain⟨⟨g1,g3,g4⟩,⟨cs,g5,g6⟩,⟨cs',g7,g8⟩⟩:=hGW;obtain⟨l,hl⟩:∃ l,l=((mailC 10 0 0 0 0 false none 0 0 ⟨#[]⟩ none 0 0 m.epoch 0 (Seam.hintN (os.map (·.epoch)) m.atN m.atE:Nat) (Seam.ep (os.map (·.epoch)) (Seam.hintN (os.map (·.epoch)) m.atN m.atE)) 0 0 none 0 0 none 0 0):Array Value).toList:=⟨_,rfl⟩
    have hla:l.toArray=(mailC 10 0 0 0 0 false none 0 0 ⟨#[]⟩ none 0 0 m.epoch 0 (Seam.hintN (os.map (·.epoch)) m.atN m.atE:Nat) (Seam.ep (os.map (·.epoch)) (Seam.hintN (os.map (·.epoch)) m.atN m.atE)) 0 0 none 0 0 none 0 0):=by rw [hl]
    have hll:l.length=17:=by rw [hl];rfl
    have hnw:=g5.setCells_ l (by rw [g6,hll])
    rw [hla] at hnw;have hsv:=save_setCells W b6 0 l;have hsz:=size_setCells W b6 0 l
    have hkb:Kept (But b6 b7) W (W.setCells b6 0 l):=(Kept.refl _ _).cells _ _ (.inl fun h=>h.1 rfl) _
    have hg1:Rg (W.setCells b6 0 l) b b4 Sx A n c os lA ln lc fence st (mailC m.kind m.term m.index m.prev m.commit m.good eA en ec m.data hA hn hc m.epoch m.site m.atN m.atE m.whN m.whE oA on oc pA pn pc):=⟨hsv.blk g1.led HNE.out.2.1,g1.ops.kept ((Kept.refl _ _).cells _ _ (.inl HNE.out.2.2.2.2.2.1) _),hsv.blk g1.k4 HNE.out.2.2.2.1⟩;have hg3:Below B W0 (W.setCells b6 0 l):=below_setCells HLO.out.1 g3 _ _;have hg7:=hsv.blk g7 (Ne.symm HNE.out.1)
    have hf2:(Blk W b7 47 noCmd)->Blk (W.setCells b6 0 l) b7 47 noCmd:=fun h=>hsv.blk h (Ne.symm HNE.out.1)
    refine wp_store_mid 30 (.tmp 6) (.tmp 85) rfl b6 0 (mailC 10 0 0 0 0 false none 0 0 ⟨#[]⟩ none 0 0 m.epoch 0 (Seam.hintN (os.map (·.epoch)) m.atN m.atE:Nat) (Seam.ep (os.map (·.epoch)) (Seam.hintN (os.map (·.epoch)) m.atN m.atE)) 0 0 none 0 0 none 0 0) e6 e85 (g5.there_ 0 _ (by rw [g6];exact Nat.le_refl _)) Try.sizeMail mailC_one ?_
    rw [<-hl];clear hl
    have hsc:∃ cs,Blk (W.setCells b6 0 l) b6 30 cs/\cs.size=17:=⟨_,hnw,by rw [<-hla];simp [hll]⟩
    have hg4:w0.heap.size<=(W.setCells b6 0 l).heap.size:=by rw [hsz];exact g4
    exact⟨_,rfl,hnw,⟨⟨hg1,hg3,hg4⟩,hsc,⟨cs',hg7,g8⟩⟩,hkb,fun _=>hnw,hf2⟩
   | 17=>
    cases ho;refine on_ (wanted_none rfl) ?_;have e86:=ev qa qb 15 86;have t86:=act_tmp e86;obtain⟨⟨g1,g3,g4⟩,⟨cs,g5,g6⟩,⟨cs',g7,g8⟩⟩:=hGW;obtain⟨l,hl⟩:∃ l,l=(noCmd:Array Value).toList:=⟨_,rfl⟩
    have hla:l.toArray=noCmd:=by rw [hl]
    have hll:l.length=16:=by rw [hl];rfl
    have hnw:=g7.setCells_ l (by rw [g8,hll])
    rw [hla] at hnw;have hsv:=save_setCells W b7 0 l;have hsz:=size_setCells W b7 0 l
    have hkb:Kept (But b6 b7) W (W.setCells b7 0 l):=(Kept.refl _ _).cells _ _ (.inl fun h=>h.2 rfl) _
    have hg1:Rg (W.setCells b7 0 l) b b4 Sx A n c os lA ln lc fence st (mailC m.kind m.term m.index m.prev m.commit m.good eA en ec m.data hA hn hc m.epoch m.site m.atN m.atE m.whN m.whE oA on oc pA pn pc):=⟨hsv.blk g1.led HNE.out.2.2.1,g1.ops.kept ((Kept.refl _ _).cells _ _ (.inl HNE.out.2.2.2.2.2.2) _),hsv.blk g1.k4 HNE.out.2.2.2.2.1⟩;have hg3:Below B W0 (W.setCells b7 0 l):=below_setCells HLO.out.2 g3 _ _;have hg5:=hsv.blk g5 HNE.out.1
    have hf1:(Blk W b6 30 (mailC 10 0 0 0 0 false none 0 0 ⟨#[]⟩ none 0 0 m.epoch 0 (Seam.hintN (os.map (·.epoch)) m.atN m.atE:Nat) (Seam.ep (os.map (·.epoch)) (Seam.hintN (os.map (·.epoch)) m.atN m.atE)) 0 0 none 0 0 none 0 0))->Blk (W.setCells b7 0 l) b6 30 (mailC 10 0 0 0 0 false none 0 0 ⟨#[]⟩ none 0 0 m.epoch 0 (Seam.hintN (os.map (·.epoch)) m.atN m.atE:Nat) (Seam.ep (os.map (·.epoch)) (Seam.hintN (os.map (·.epoch)) m.atN m.atE)) 0 0 none 0 0 none 0 0):=fun h=>hsv.blk h HNE.out.1
    refine wp_store_mid 47 (.tmp 7) (.tmp 86) rfl b7 0 noCmd e7 e86 (g7.there_ 0 _ (by rw [g8];exact Nat.le_refl _)) Try.sizeCmd noCmd_one ?_
    rw [<-hl];clear hl
    have hsc:∃ cs,Blk (W.setCells b7 0 l) b7 47 cs/\cs.size=16:=⟨_,hnw,by rw [<-hla];simp [hll]⟩
    have hg4:w0.heap.size<=(W.setCells b7 0 l).heap.size:=by rw [hsz];exact g4
    exact⟨_,rfl,hnw,⟨⟨hg1,hg3,hg4⟩,⟨cs,hg5,g6⟩,hsc⟩,hkb,hf1,fun _=>hnw⟩
   | i+19=>exact absurd ho (by simp)
 case hend=>
  intro U W hGW hV
  have hk6:Blk W b6 30 (mailC 10 0 0 0 0 false none 0 0 ⟨#[]⟩ none 0 0 m.epoch 0 (Seam.hintN (os.map (·.epoch)) m.atN m.atE:Nat) (Seam.ep (os.map (·.epoch)) (Seam.hintN (os.map (·.epoch)) m.atN m.atE)) 0 0 none 0 0 none 0 0):=hV 16 kd
  have hk7:Blk W b7 47 noCmd:=hV 17 kd
  have h8:U 18=.int .i64 1:=hV 18 kd
  obtain⟨HK6,HK7,HB⟩:=J3 hk6 hk7 hGW.1.2.1
  clear hV hGW hk6 hk7
  refine wp_ret (HRET.out _ _ ?_)
  refine bodyPost_ret (rmeet_results (b6:=b6) (b7:=b7) (by simp [putU,dstAt,Act.put]) (by simp [putU,dstAt,Act.put]) (by simp [putU,dstAt,Act.put];exact h8) HK6.out HK7.out) (by simp [putU,dstAt,Act.put]) ?_
  exact HR.out _ HB.out
end
end Go.Proofs.Ytaipgdhdfpemcaa
