/- THE WALKS OF THE LANE, part 18. -/
import Derived.Test.YtaipgdhdfpemcaaF9
namespace Go.Proofs.Ytaipgdhdfpemcaa
set_option linter.all false
open Go.RowKit Go.Proofs.Try
set_option maxRecDepth 100000
set_option maxHeartbeats 4000000
theorem eta130 (t:Array Value) (h:t.size=130):t=#[at_ t 0,at_ t 1,at_ t 2,at_ t 3,at_ t 4,at_ t 5,at_ t 6,at_ t 7,at_ t 8,at_ t 9,at_ t 10,at_ t 11,at_ t 12,at_ t 13,at_ t 14,at_ t 15,at_ t 16,at_ t 17,at_ t 18,at_ t 19,at_ t 20,at_ t 21,at_ t 22,at_ t 23,at_ t 24,at_ t 25,at_ t 26,at_ t 27,at_ t 28,at_ t 29,at_ t 30,at_ t 31,at_ t 32,at_ t 33,at_ t 34,at_ t 35,at_ t 36,at_ t 37,at_ t 38,at_ t 39,at_ t 40,at_ t 41,at_ t 42,at_ t 43,at_ t 44,at_ t 45,at_ t 46,at_ t 47,at_ t 48,at_ t 49,at_ t 50,at_ t 51,at_ t 52,at_ t 53,at_ t 54,at_ t 55,at_ t 56,at_ t 57,at_ t 58,at_ t 59,at_ t 60,at_ t 61,at_ t 62,at_ t 63,at_ t 64,at_ t 65,at_ t 66,at_ t 67,at_ t 68,at_ t 69,at_ t 70,at_ t 71,at_ t 72,at_ t 73,at_ t 74,at_ t 75,at_ t 76,at_ t 77,at_ t 78,at_ t 79,at_ t 80,at_ t 81,at_ t 82,at_ t 83,at_ t 84,at_ t 85,at_ t 86,at_ t 87,at_ t 88,at_ t 89,at_ t 90,at_ t 91,at_ t 92,at_ t 93,at_ t 94,at_ t 95,at_ t 96,at_ t 97,at_ t 98,at_ t 99,at_ t 100,at_ t 101,at_ t 102,at_ t 103,at_ t 104,at_ t 105,at_ t 106,at_ t 107,at_ t 108,at_ t 109,at_ t 110,at_ t 111,at_ t 112,at_ t 113,at_ t 114,at_ t 115,at_ t 116,at_ t 117,at_ t 118,at_ t 119,at_ t 120,at_ t 121,at_ t 122,at_ t 123,at_ t 124,at_ t 125,at_ t 126,at_ t 127,at_ t 128,at_ t 129]:=(eta_ t h).trans kr
@[reducible] noncomputable def same15F:Func:=Try.f19
theorem same15_last (R:Ending->World->Prop) (a:Act) (w:World) (b1 b2:Nat) (m:MailC) {eA:O} {en ec:Nat} {hA:O} {hn hc:Nat} {oA:O} {on oc:Nat} {pA:O} {pn pc:Nat} {eA':O} {en' ec':Nat} {hA':O} {hn' hc':Nat} {oA':O} {on' oc':Nat} {pA':O} {pn' pc':Nat}
 (hfr:Fr 130 a [(2,b1),(3,b2)])
 (h1:Blk w b1 30 (mailC m.kind m.term m.index m.prev m.commit m.good eA en ec m.data hA hn hc m.epoch m.site m.atN m.atE m.whN m.whE oA on oc pA pn pc))
 (h2:Blk w b2 30 (mailC m.kind m.term m.index m.prev m.commit m.good eA' en' ec' m.data hA' hn' hc' m.epoch m.site m.atN m.atE m.whN m.whE oA' on' oc' pA' pn' pc'))
 (hR:R (.returned (.bool true)) w) :
 (part [1,1,1] (codeOf same15F)).wp prog (bodyPost prog same15F R) a w:=by
 obtain⟨x0,x1,x2,x3,x4,x5,x6,x7,x8,x9,x10,x11,x12,x13,x14,x15,x16⟩:=m
 simp only at h1 h2
 obtain⟨c0,c1,c2,c3,c4,c5⟩:=h1.cs 0 6
 have c7:=h1.c1 7
 obtain⟨c9,c10,c11,c12,c13,c14⟩:=h1.cs 9 6
 obtain⟨d0,d1,d2,d3,d4,d5⟩:=h2.cs 0 6
 have d7:=h2.c1 7
 obtain⟨d9,d10,d11,d12,d13,d14⟩:=h2.cs 9 6
 clear h1 h2
 refine gg hfr fun t=>?_
 go_wp2_with fail
 exact hR
section
variable {ec ec' en en' hc hc' hn hn' oc oc' on on' pc pc' pn pn':Nat} {S S':Nat->Prop} {eA eA' hA hA' oA oA' pA pA':O}
theorem same15_loop (W:World) (a:Act) (w:World) (b1 b2:Nat) (m:MailC) (hfr:Fr 130 a [(2,b1),(3,b2)]) (h1:Blk w b1 30 (mailC m.kind m.term m.index m.prev m.commit m.good eA en ec m.data hA hn hc m.epoch m.site m.atN m.atE m.whN m.whE oA on oc pA pn pc)) (h2:Blk w b2 30 (mailC m.kind m.term m.index m.prev m.commit m.good eA' en' ec' m.data hA' hn' hc' m.epoch m.site m.atN m.atE m.whN m.whE oA' on' oc' pA' pn' pc')) (s1:StrIs w S hA hn hc m.hs) (s2:StrIs w S' hA' hn' hc' m.hs) (hz:hn<=140737488351232) (hb:Below W W w) :
 (part [1,1] (codeOf same15F)).wp prog (bodyPost prog same15F fun e w'=>e=.returned (.bool true)/\Below W W w') a w:=by
 obtain rfl:hn=hn':=by rw [<-s1.len,<-s2.len]
 obtain⟨H1,H2,S1,S2,HB⟩:=J5 h1 h2 s1 s2 hb
 clear h1 h2 s1 s2 hb
 obtain⟨t,df⟩:=a
 obtain⟨hd,hs,h2,h3,-⟩:=hfr
 simp only at hd hs h2 h3
 subst hd
 rw [eta130 t hs,h2,h3]
 clear hs h2 h3
 refine w2p ?_
 intro K hK
 conv=>arg 2;whnf
 go_wp2_with fail
 go_loopw [5] (fun i wr=>∃ k:Nat,k<=hn/\i=.int .i64 k/\Below w w wr) (fun i _=>hn-(intOf i).toNat)
 case atStart=>exact⟨0,by omega,rfl,Below.refl _ _⟩
 case round=>
  obtain⟨k,hk,rfl,hb⟩:=hrel
  have hh1:=H1.out.below hb H1.out.lt
  have hh2:=H2.out.below hb H2.out.lt
  have e1:=hh1.c1 8
  have e2:=hh2.c1 8
  obtain⟨G1,G2,HW⟩:=J3 hh1 hh2 hb
  clear hb hh1 hh2
  rcases Nat.lt_or_ge k hn with hk1|hk1
  ·obtain⟨ad,x,hA,c1,hx⟩:=str_at (S1.out.below HW.out).1.reads hk1
   obtain⟨ad',x',hA',c1',hx'⟩:=str_at (S2.out.below HW.out).1.reads hk1
   rw [hx] at hx'
   injection hx' with hx'
   subst hx'
   clear hx
   subst hA
   subst hA'
   have b1:(0:Int)<=(k:Int):=by omega
   have b2:(k:Int)<(hn:Int):=by omega
   go_wp2_with fail
   go_quiet (fail)
   go_wp2
   go_roundw
   case rel=>exact⟨k+1,by omega,by go_num,below_drewN HW.out _⟩
   case measure=>simp [intOf];omega
  ·obtain rfl:hn=k:=by omega
   go_wp2_with fail
   exact same15_last _ _ _ b1 b2 m ff G1.out G2.out ⟨rfl,HB.out.trans (HW.out.mono HB.out.size)⟩
theorem same15_any (cs cs':Array Value) (m:MailC) (w:World) (h:MailIs w S cs m) (h':MailIs w S' cs' m) (hok:m.Ok) :
 Calls prog 19 #[.agg cs,.agg cs'] w fun e w'=>e=.returned (.bool true)/\Below w w w':=by
 obtain⟨eA,en,ec,hA,hn,hc,oA,on,oc,pA,pn,pc,rfl,h1,h2,h3,h4⟩:=h
 obtain⟨eA',en',ec',hA',hn',hc',oA',on',oc',pA',pn',pc',rfl,h1',h2',h3',h4'⟩:=h'
 have l1:=h1.len
 have l2:=h2.len
 have l3:=h3.len
 have l4:=h4.len
 have z1:en<=140737488351232:=by have:=hok.ents;omega
 have z2:hn<=140737488351232:=by have:=hok.hs;omega
 have z3:on<=140737488351232:=by have:=hok.holes;omega
 have z4:pn<=140737488351232:=by have:=hok.ops;omega
 have z5:∀ o∈m.ops,o.hs.length<=140737488351232:=fun o ho=>by have:=(hok.op o ho).hs;omega
 obtain rfl:hn=hn':=by rw [<-l2,<-h2'.len]
 have hb:Below w w ((w.alloc (.cells (mailC m.kind m.term m.index m.prev m.commit m.good eA en ec m.data hA hn hc m.epoch m.site m.atN m.atE m.whN m.whE oA on oc pA pn pc) 30)).alloc (.cells (mailC m.kind m.term m.index m.prev m.commit m.good eA' en' ec' m.data hA' hn hc' m.epoch m.site m.atN m.atE m.whN m.whE oA' on' oc' pA' pn' pc') 30)):=((Below.refl _ _).alloc (Nat.le_refl _) _).alloc (by simp) _
 have hx1:Blk ((w.alloc (.cells (mailC m.kind m.term m.index m.prev m.commit m.good eA en ec m.data hA hn hc m.epoch m.site m.atN m.atE m.whN m.whE oA on oc pA pn pc) 30)).alloc (.cells (mailC m.kind m.term m.index m.prev m.commit m.good eA' en' ec' m.data hA' hn hc' m.epoch m.site m.atN m.atE m.whN m.whE oA' on' oc' pA' pn' pc') 30)) w.heap.size 30 (mailC m.kind m.term m.index m.prev m.commit m.good eA en ec m.data hA hn hc m.epoch m.site m.atN m.atE m.whN m.whE oA on oc pA pn pc):=(Blk.new w _ _).alloc _
 have hx2:Blk ((w.alloc (.cells (mailC m.kind m.term m.index m.prev m.commit m.good eA en ec m.data hA hn hc m.epoch m.site m.atN m.atE m.whN m.whE oA on oc pA pn pc) 30)).alloc (.cells (mailC m.kind m.term m.index m.prev m.commit m.good eA' en' ec' m.data hA' hn hc' m.epoch m.site m.atN m.atE m.whN m.whE oA' on' oc' pA' pn' pc') 30)) (w.heap.size+1) 30 (mailC m.kind m.term m.index m.prev m.commit m.good eA' en' ec' m.data hA' hn hc' m.epoch m.site m.atN m.atE m.whN m.whE oA' on' oc' pA' pn' pc'):=by
  have:=Blk.new (w.alloc (.cells (mailC m.kind m.term m.index m.prev m.commit m.good eA en ec m.data hA hn hc m.epoch m.site m.atN m.atE m.whN m.whE oA on oc pA pn pc) 30)) 30 (mailC m.kind m.term m.index m.prev m.commit m.good eA' en' ec' m.data hA' hn hc' m.epoch m.site m.atN m.atE m.whN m.whE oA' on' oc' pA' pn' pc')
  simpa using this
 obtain⟨HB,X1,X2,R1,R2,R3,R4,Q1,Q2⟩:=J9 hb hx1 hx2 h1 h2 h3 h4 h1' h2'
 obtain⟨Q3,Q4,Z5⟩:=J3 h3' h4' z5
 clear h1 h2 h3 h4 h1' h2' h3' h4' hb hx1 hx2 l1 l2 l3 l4 hok z5
 go_enter func19,ntmps19
 conv=>arg 2;arg 2;arg 2;change part [1,1] (codeOf same15F)
 go_wp2_with fail
 refine (sameHoles_any _ (R3.out.below HB.out) (Q3.out.below HB.out) z3).mono ?_
 rintro e w1 ⟨rfl,hb1⟩
 have hy1:=X1.out.below hb1 X1.out.lt
 have hy2:=X2.out.below hb1 X2.out.lt
 have c6:=hy1.c1 6
 have d6:=hy2.c1 6
 obtain⟨Y1,Y2⟩:=J2 hy1 hy2
 have HB1:=J (HB.out.trans (hb1.mono HB.out.size))
 clear hb1 hy1 hy2
 go_wp2_with fail
 refine (sameEnt_any _ (R1.out.below HB1.out) (Q1.out.below HB1.out) z1).mono ?_
 rintro e w2 ⟨rfl,hb2⟩
 have hy1:=Y1.out.below hb2 Y1.out.lt
 have hy2:=Y2.out.below hb2 Y2.out.lt
 have c16:=hy1.c1 16
 have d16:=hy2.c1 16
 obtain⟨U1,U2⟩:=J2 hy1 hy2
 have HB2:=J (HB1.out.trans (hb2.mono HB1.out.size))
 clear hb2 hy1 hy2 c6 d6
 go_wp2_with fail
 refine (sameOps_any _ (R4.out.below HB2.out) (Q4.out.below HB2.out) z4 Z5.out).mono ?_
 rintro e w3 ⟨rfl,hb3⟩
 have T1:=J (U1.out.below hb3 U1.out.lt)
 have T2:=J (U2.out.below hb3 U2.out.lt)
 have HB3:=J (HB2.out.trans (hb3.mono HB2.out.size))
 clear hb3 c16 d16
 go_wp2_with fail
 exact same15_loop w _ _ w.heap.size (w.heap.size+1) m ff T1.out T2.out (R2.out.below HB3.out) (Q2.out.below HB3.out) z2 HB3.out
end
end Go.Proofs.Ytaipgdhdfpemcaa
