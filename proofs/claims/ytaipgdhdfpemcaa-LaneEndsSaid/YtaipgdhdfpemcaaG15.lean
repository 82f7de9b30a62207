/- THE WALKS OF THE LANE, part 15. -/
import Derived.Test.YtaipgdhdfpemcaaG13
import Derived.Test.YtaipgdhdfpemcaaG14
namespace Go.Proofs.Ytaipgdhdfpemcaa
set_option linter.all false
open Go.RowKit Go.Proofs.Try
set_option maxRecDepth 100000
set_option maxHeartbeats 4000000
theorem wrap_id {z:Int} (h : -9223372036854775808<=z/\z<=9223372036854775807):wrap64 z=z:=by unfold wrap64;omega
theorem count_any (z:Int) (hz:0<=z/\z<=512) (w:World):Calls prog 113 #[z] w fun x w'=>x=.returned (.int .i64 ((z+63) / 64))/\w'=w:=by
 by_cases h:z<=0
 ·obtain rfl:z=0:=by omega
  clear hz h
  go_enter func113,ntmps113
  exact Y154
 ·have d:decide (z<=0)=false:=decide_eq_false h
  obtain⟨q,hq⟩:∃ q,q=(z-1) / 64:=⟨_,rfl⟩
  have e1:(z-1).tdiv 64=q:=by rw [Int.tdiv_eq_ediv_of_nonneg (by omega),hq]
  have w1:wrap64 (z-1)=z-1:=wrap_id (by omega)
  have HE:Hid (wrap64 (q+1)=(z+63) / 64):=J (by rw [wrap_id (by omega)];omega)
  have HF:Hid (wrap64 (wrap64 q+1)=(z+63) / 64):=J (by rw [wrap_id (z:=q) (by omega),wrap_id (by omega)];omega)
  clear h hq
  go_enter func113,ntmps113
  go_wp2_with fail
  refine bodyPost_ret (results_tmp rfl _ _ _) rfl ?_
  refine⟨congrArg (fun y=>Ending.returned (Value.int .i64 y)) ?_,rfl⟩
  first|exact HE.out|exact HF.out
def tagB (z:Int):Bool:=decide (0<=z)&&decide (z<=1099511627776)
theorem tagged_any (z:Int) (w:World):Calls prog 83 #[z] w fun x w'=>x=.returned (.bool (tagB z))/\w'=w:=by
 go_enter func83,ntmps83
 go_wp2_with fail
 all_goals
  refine bodyPost_ret (results_tmp rfl _ _ _) rfl ?_
  refine⟨congrArg (fun b=>Ending.returned (Value.bool b)) ?_,rfl⟩
  rw [Bool.eq_iff_iff]
  simp [tagB]
  try omega
def reignB (e s:Int):Bool:=decide (1<=e)&&(decide (e<=16)&&(decide (0<=s)&&decide (s<2)))
theorem reigned_any (e s:Int) (w:World):Calls prog 85 #[e,s] w fun x w'=>x=.returned (.bool (reignB e s))/\w'=w:=by
 go_enter func85,ntmps85
 go_wp2_with fail
 all_goals
  refine bodyPost_ret (results_tmp rfl _ _ _) rfl ?_
  refine⟨congrArg (fun b=>Ending.returned (Value.bool b)) ?_,rfl⟩
  rw [Bool.eq_iff_iff]
  simp [reignB]
  try omega
def bareB (z:Int) (n:Nat):Bool:=decide (z=0)&&decide (n=0)
theorem bare_any (z:Int) (A:O) (n c:Nat) (w:World):Calls prog 108 #[.agg #[z,.slice A n c]] w fun x w'=>x=.returned (.bool (bareB z n))/\Below w w w':=by
 have hb:∀ o,Below w w (w.alloc o):=fun o=>(Below.refl _ _).alloc (Nat.le_refl _) _
 have HB:=J hb
 clear hb
 go_enter func108,ntmps108
 go_wp2_with fail
 all_goals
  refine bodyPost_ret (results_tmp rfl _ _ _) rfl ?_
  refine⟨congrArg (fun b=>Ending.returned (Value.bool b)) ?_,HB.out _⟩
  rw [Bool.eq_iff_iff]
  simp [bareB]
  try omega
@[reducible] def opCells (n epoch kind site client seq:Int) (name:ByteArray) (size:Int) (A:O) (hn hc:Nat):Array Value:=
 #[n,epoch,kind,site,client,seq,.string name,size,.slice A hn hc]
def blankB (client seq:Int) (name:ByteArray) (size:Int) (hn:Nat):Bool:=decide (client=0)&&(decide (seq=0)&&(decide (name.size=0)&&bareB size hn))
section
variable {b:ByteArray}
theorem toList_nil:b.toList=[]↔b.size=0:=by
 rw [ByteArray.toList_eq,<-List.length_eq_zero_iff,Array.length_toList]
 exact Iff.rfl
theorem blank_any (n epoch kind site client seq:Int) (name:ByteArray) (size:Int) (A:O) (hn hc:Nat) (w:World):Calls prog 82 #[.agg (opCells n epoch kind site client seq name size A hn hc)] w fun x w'=>x=.returned (.bool (blankB client seq name size hn))/\Below w w w':=by
 have hb:∀ o,Below w w (w.alloc o):=fun o=>(Below.refl _ _).alloc (Nat.le_refl _) _
 have HB:=J hb
 clear hb
 go_enter func82,ntmps82
 go_wp2_with fail
 ·refine (bare_any _ _ _ _ _).mono ?_
  rintro e w1 ⟨rfl,hb1⟩
  have HB1:=J ((HB.out _).trans (hb1.mono (by simp)))
  clear hb1
  go_wp2_with fail
  refine bodyPost_ret (results_tmp rfl _ _ _) rfl ?_
  refine⟨congrArg (fun b=>Ending.returned (Value.bool b)) ?_,HB1.out⟩
  rename_i h1 h2 h3
  simp [blankB,h1,h2,toList_nil.1 h3]
 all_goals
  refine bodyPost_ret (results_tmp rfl _ _ _) rfl ?_
  refine⟨congrArg (fun b=>Ending.returned (Value.bool b)) ?_,HB.out _⟩
  rw [Bool.eq_iff_iff]
  simp_all [blankB,toList_nil]
end
def hasL (os:List OpC) (N E:Int):Bool:=decide (N=0)||(decide (N<=os.length)&&match os[(N-1).toNat]? with
 | some o=>decide (o.epoch=E)
 | none=>false)
theorem ledHas_any {g:Nat} {cs:Array Value} {A:O} {n c:Nat} {os:List OpC} {S:Nat->Prop} (N E:Int) (w:World) (hb:Blk w g 98 cs) (h5:cs[5]? = some (.slice A n c)) (ho:OpsIs w S A n c os) (hN:0<=N/\N<=4294967296) :
 Calls prog 88 #[.pointer (some ⟨g,0,none⟩),.agg #[N,E]] w fun x w'=>x=.returned (.bool (hasL os N E))/\Below w w w':=by
 have hlen:=ho.len
 have hlt:=hb.lt
 have hb0:Below w w (w.alloc (.cells #[N,E] 26)):=(Below.refl _ _).alloc (Nat.le_refl _) _
 have hk0:=hb.below hb0 hlt
 have ho0:=ho.below hb0
 have c5:=hk0.cell 5
 rw [h5] at c5
 obtain⟨r,hr⟩:∃ r,r=hasL os N E:=⟨_,rfl⟩
 rw [<-hr]
 obtain⟨HR,HB0⟩:=J2 hr hb0
 by_cases h0:N=0
 ·have e0:(N==0)=true:=beq_iff_eq.2 h0
  obtain rfl:r=true:=by rw [HR.out];unfold hasL;rw [decide_eq_true h0];rfl
  have HE:=J e0
  clear hr h0 hb ho hb0 hk0 ho0 hlen h5 hN
  exact Y43
 have e0:(N==0)=false:=beq_eq_false_iff_ne.2 h0
 by_cases h1:N<=(n:Int)
 ·obtain⟨j,rfl⟩:∃ j:Nat,N=(j:Int)+1:=⟨(N-1).toNat,by omega⟩
  have d1:decide ((j:Int)+1<=(n:Int))=true:=decide_eq_true h1
  obtain⟨ad,o,hA,hn1,hc1,rfl,hab,hck,hop,hss⟩:=ho0.at_ (k:=j) (by omega)
  obtain⟨k0,k1,k2,k3,k4,k5,k6,k7,k8⟩:=hop
  simp only [OpC.at_] at k0 k1 k2 k3 k4 k5 k6 k7 k8
  have w1:IntKind.i64.wrap ((j:Int)+1-1)=(j:Int):=by rw [IntKind.wrap_i64];omega
  have w2:IntKind.i64.wrap (j:Int)=(j:Int):=by rw [IntKind.wrap_i64];omega
  have w3:wrap64 (j:Int)=(j:Int):=wrap_id (by omega)
  have b1:(0:Int)<=(j:Int):=by omega
  have b2:(j:Int)<(n:Int):=by omega
  have ej:((j:Int)+1-1).toNat=j:=by omega
  have hre:r=decide (o.epoch=E):=by rw [HR.out];unfold hasL;rw [decide_eq_false h0,hlen,decide_eq_true h1,ej,hck];rfl
  have HRE:=J hre
  clear hr hre h0 h1 hb ho hb0 hk0 ho0 hlen h5 hN hck hab hss k0 k2 k3 k4 k5 k6 k7 k8 ej
  by_cases he:o.epoch=E
  ·obtain rfl:r=true:=by rw [HRE.out,decide_eq_true he]
   have x1:(o.epoch==E)=true:=beq_iff_eq.2 he
   clear he
   exact Y43
  ·obtain rfl:r=false:=by rw [HRE.out,decide_eq_false he]
   have x1:(o.epoch==E)=false:=beq_eq_false_iff_ne.2 he
   clear he
   exact Y43
 ·have d1:decide (N<=(n:Int))=false:=decide_eq_false h1
  obtain rfl:r=false:=by rw [HR.out];unfold hasL;rw [decide_eq_false h0,hlen,decide_eq_false h1];rfl
  clear hr h0 h1 hb ho hb0 hk0 ho0 hlen h5 hN
  exact Y43
def errB:Bool->Int
 | true=>0
 | false=>3
def h32 (b:ByteArray):Bool:=(b.size:Int)==32
def sheetB (z:Int) (hs:List ByteArray):Bool:=(decide (0<=z)&&(decide (z<=512)&&((hs.length:Int)==(z+63) / 64)))&&hs.all h32
@[reducible] noncomputable def sheetF:Func:=Try.f109
section
variable {x:ByteArray} {f:ByteArray->Bool} {z:Int} {hs l:List ByteArray} {b c k n:Nat} {S:Nat->Prop} {A:O} {W w:World}
theorem all_next (h:l[k]? = some x):(l.take (k+1)).all f=((l.take k).all f&&f x):=by
 rw [List.take_add_one,h]
 simp
theorem sheet2 (p r:Bool) (hr:r=(p&&hs.all h32)) (a:Act) (hfr:Fr 39 a [(1,b),(3,p)]) (hb:Blk w b 43 #[z,.slice A n c]) (h:StrIs w S A n c hs) (hn:n<=140737488351232) (hw:Below W W w) :
 (part [1,1] (codeOf sheetF)).wp prog (bodyPost prog sheetF fun x w'=>x=.returned (.int .i64 (errB r))/\Below W W w') a w:=by
 have c1:=hb.c1 1
 have hlen:=h.len
 obtain⟨HR,HL,HW,HRR⟩:=J4 h hlen hw hr
 clear h hlen hw hb hr
 refine gg hfr fun t=>?_
 go_wp2_with fail
 go_loopw [3,26] (fun ok i wr=>∃ k:Nat,k<=n/\i=.int .i64 k/\ok=.bool (p&&(hs.take k).all h32)/\Below w w wr) (fun _ i _=>n-(intOf i).toNat)
 case atStart=>exact⟨0,by omega,rfl,by simp,Below.refl _ _⟩
 case round=>
  obtain⟨k,hk,rfl,rfl,hb⟩:=hrel
  have HB:=J hb
  clear hb
  rcases Nat.lt_or_ge k n with hk1|hk1
  ·obtain⟨ad,x,hA,c1,hx⟩:=str_at (HR.out.below HB.out).1.reads hk1
   subst hA
   have hn':=all_next (f:=h32) hx
   have HN:=J hn'
   have b1:(0:Int)<=(k:Int):=by omega
   have b2:(k:Int)<(n:Int):=by omega
   clear hn' hx
   obtain⟨q,hq⟩:∃ q,q=(p&&(hs.take k).all h32):=⟨_,rfl⟩
   have HQ:=J hq
   rw [<-hq]
   clear hq
   go_wp2_with fail
   all_goals
    go_roundw
    case rel=>refine⟨k+1,by omega,by go_num,?_,HB.out⟩;rw [HN.out,<-Bool.and_assoc,<-HQ.out];simp_all [h32]
    case measure=>simp [intOf];omega
  ·obtain rfl:n=k:=by omega
   have hall:(hs.take n).all h32=hs.all h32:=by rw [List.take_of_length_le (by rw [HL.out];exact Nat.le_refl _)]
   rw [hall]
   have HF:=J (HW.out.trans (HB.out.mono HW.out.size))
   cases hq:(p&&hs.all h32)
   all_goals
    have he:=HRR.out.trans hq
    subst he
    go_wp2_with fail
    go_ret
    exact⟨rfl,HF.out⟩
theorem sheetCheck_any (z:Int) (w:World) (h:StrIs w S A n c hs) (hn:n<=140737488351232) :
 Calls prog 109 #[.agg #[z,.slice A n c]] w fun x w'=>x=.returned (.int .i64 (errB (sheetB z hs)))/\Below w w w':=by
 have hlen:=h.len
 have hb0:Below w w (w.alloc (.cells #[z,.slice A n c] 43)):=(Below.refl _ _).alloc (Nat.le_refl _) _
 have hbk:=Blk.new w 43 #[z,.slice A n c]
 obtain⟨HB,HK⟩:=J2 hb0 hbk
 have HS:=J (h.below hb0)
 have HL:=J hlen
 obtain⟨r,hr⟩:∃ r,r=sheetB z hs:=⟨_,rfl⟩
 rw [<-hr]
 have HRR:=J hr
 clear h hlen hb0 hbk hr
 go_enter func109,ntmps109
 conv=>arg 2;arg 2;arg 2;change part [1,1] (codeOf sheetF)
 go_wp2_with fail
 cases d1:decide (0<=z)
 ·go_quiet (fail)
  go_wp2_with fail
  refine sheet2 false r (HRR.out.trans (by unfold sheetB;rw [d1];rfl)) _ ?_ (HK.out.below (below_drewN (Below.refl _ _) _) HK.out.lt) (HS.out.below (below_drewN (Below.refl _ _) _)) hn (below_drewN HB.out _)
  exact ff
 ·cases d2:decide (z<=512)
  ·go_quiet (fail)
   go_wp2_with fail
   refine sheet2 false r (HRR.out.trans (by unfold sheetB;rw [d1,d2];rfl)) _ ?_ (HK.out.below (below_drewN (Below.refl _ _) _) HK.out.lt) (HS.out.below (below_drewN (Below.refl _ _) _)) hn (below_drewN HB.out _)
   exact ff
  ·have hz:0<=z/\z<=512:=⟨of_decide_eq_true d1,of_decide_eq_true d2⟩
   go_quiet ((go_at_call 113;exact Calls.quiet_of_same (count_any z hz _)))
   go_wp2_with fail
   refine sheet2 ((n:Int)==(z+63) / 64) r (HRR.out.trans (by unfold sheetB;rw [d1,d2,HL.out];rfl)) _ ?_ (HK.out.below (below_drewN (Below.refl _ _) _) HK.out.lt) (HS.out.below (below_drewN (Below.refl _ _) _)) hn (below_drewN HB.out _)
   exact ff
end
theorem eta83 (t:Array Value) (h:t.size=83):t=#[at_ t 0,at_ t 1,at_ t 2,at_ t 3,at_ t 4,at_ t 5,at_ t 6,at_ t 7,at_ t 8,at_ t 9,at_ t 10,at_ t 11,at_ t 12,at_ t 13,at_ t 14,at_ t 15,at_ t 16,at_ t 17,at_ t 18,at_ t 19,at_ t 20,at_ t 21,at_ t 22,at_ t 23,at_ t 24,at_ t 25,at_ t 26,at_ t 27,at_ t 28,at_ t 29,at_ t 30,at_ t 31,at_ t 32,at_ t 33,at_ t 34,at_ t 35,at_ t 36,at_ t 37,at_ t 38,at_ t 39,at_ t 40,at_ t 41,at_ t 42,at_ t 43,at_ t 44,at_ t 45,at_ t 46,at_ t 47,at_ t 48,at_ t 49,at_ t 50,at_ t 51,at_ t 52,at_ t 53,at_ t 54,at_ t 55,at_ t 56,at_ t 57,at_ t 58,at_ t 59,at_ t 60,at_ t 61,at_ t 62,at_ t 63,at_ t 64,at_ t 65,at_ t 66,at_ t 67,at_ t 68,at_ t 69,at_ t 70,at_ t 71,at_ t 72,at_ t 73,at_ t 74,at_ t 75,at_ t 76,at_ t 77,at_ t 78,at_ t 79,at_ t 80,at_ t 81,at_ t 82]:=(eta_ t h).trans kr
@[reducible] noncomputable def chkOpF:Func:=Try.f84
def headB (n e s:Int):Bool:=decide (1<=n)&&(decide (n<=80)&&reignB e s)
def ownB (client seq:Int) (name:ByteArray):Bool:=decide (0<=client)&&(decide (client<8)&&(decide (1<=seq)&&(decide (seq<=1099511627776)&&(decide (0<name.size)&&decide (name.size<=16)))))
def kindB (kind client seq:Int) (name:ByteArray) (size:Int) (hs:List ByteArray):Bool:=
 if kind=1 then ownB client seq name&&sheetB size hs else if kind=2 then ownB client seq name&&bareB size hs.length else if kind=3 then blankB client seq name size hs.length else false
def opB (o:OpC):Bool:=headB o.n o.epoch o.site&&kindB o.kind o.client o.seq o.name o.size o.hs
section
variable {n epoch kind site client seq:Int} {name:ByteArray} {size:Int} {A:O} {hn hc:Nat}
section
variable {p:Bool} {hs:List ByteArray} {b:Nat} {S:Nat->Prop} {W w:World}
theorem chkOp1 (Q:Z) (a:Act) (hfr:Fr 83 a [(1,b),(2,.int .i64 0)]) (hb:Blk w b 45 (opCells n epoch kind site client seq name size A hn hc)) (hQ:∀ a',Fr 83 a' [(1,b),(2,.int .i64 0),(3,.bool (headB n epoch site))]->Q .normal a' w) :
 (part [1,0] (codeOf chkOpF)).wp prog Q a w:=by
 obtain⟨c0,c1⟩:=hb.cs 0 2
 have c3:=hb.c1 3
 have HQ:=J hQ
 clear hQ hb
 refine gg hfr fun t=>?_
 go_wp2_with fail
 ·refine (reigned_any _ _ _).mono ?_
  rintro e w1 ⟨rfl,rfl⟩
  go_wp2_with fail
  refine HQ.out _ ⟨rfl,rfl,rfl,rfl,?_,trivial⟩
  rename_i h1 h2
  simp [headB,h1,h2,at_]
 all_goals
  refine HQ.out _ ⟨rfl,rfl,rfl,rfl,?_,trivial⟩
  refine congrArg Value.bool ?_
  rw [Bool.eq_iff_iff]
  simp [headB]
  try omega
theorem chkOp2 (Q:Z) (a:Act) (hfr:Fr 83 a [(1,b),(2,.int .i64 0),(3,p)]) (hb:Blk w b 45 (opCells n epoch kind site client seq name size A hn hc)) (hQ:∀ a',Fr 83 a' [(1,b),(2,.int .i64 0),(3,p),(4,.bool (ownB client seq name))]->Q .normal a' w) :
 (part [1,1,0] (codeOf chkOpF)).wp prog Q a w:=by
 obtain⟨c4,c5,c6⟩:=hb.cs 4 3
 have HQ:=J hQ
 clear hQ hb
 obtain⟨t,df⟩:=a
 obtain⟨hd,hs,h1,h2,h3,-⟩:=hfr
 simp only at hd hs h1 h2 h3
 subst hd
 rw [eta83 t hs,h1,h2,h3]
 clear hs h1 h2 h3
 by_cases hl:name.toList=[]
 ·have hz:=toList_nil.1 hl
  have HZ:=J hz
  clear hz
  conv=>arg 2;whnf
  go_wp2_with fail
  all_goals
   refine HQ.out _ ⟨rfl,rfl,rfl,rfl,rfl,?_,trivial⟩
   refine congrArg Value.bool ?_
   have hz:=HZ.out
   rw [Bool.eq_iff_iff]
   simp [ownB,hz]
 ·have hz:0<name.size:=Nat.pos_of_ne_zero fun h=>hl (toList_nil.2 h)
  have HZ:=J hz
  clear hz
  conv=>arg 2;whnf
  go_wp2_with fail
  all_goals
   refine HQ.out _ ⟨rfl,rfl,rfl,rfl,rfl,?_,trivial⟩
   refine congrArg Value.bool ?_
   have hz:=HZ.out
   rw [Bool.eq_iff_iff]
   simp [ownB,hz]
   try simp only [hl,not_false_eq_true,true_and]
   try omega
theorem chkOp3 (r:Bool) (hr:r=(p&&kindB kind client seq name size hs)) (a:Act) (hfr:Fr 83 a [(1,b),(2,.int .i64 0),(3,p),(4,.bool (ownB client seq name))]) (hb:Blk w b 45 (opCells n epoch kind site client seq name size A hn hc)) (h:StrIs w S A hn hc hs) (hz:hn<=140737488351232) (hw:Below W W w) :
 (part [1,1,1] (codeOf chkOpF)).wp prog (bodyPost prog chkOpF fun x w'=>x=.returned (.int .i64 (errB r))/\Below W W w') a w:=by
 have hlen:=h.len
 obtain⟨HR,HB,HS,HW,HL⟩:=J5 hr hb h hw hlen
 obtain⟨q,hq⟩:∃ q,q=ownB client seq name:=⟨_,rfl⟩
 have HQ:=J hq
 rw [<-hq] at hfr
 have c2:=hb.c1 2
 obtain⟨c7,c8⟩:=hb.cs 7 2
 clear hb h hw hlen hq hr
 by_cases k1:kind=1
 ·skip
  have e:r=(p&&(q&&sheetB size hs)):=by rw [HR.out];simp [kindB,k1];rw [HQ.out]
  have HE:=J e
  have e0:(kind==1)=true:=by simp [k1]
  clear e
  cases p
  ·obtain rfl:r=false:=HE.out
   exact Y14
  cases q
  ·obtain rfl:r=false:=HE.out
   exact Y14
  obtain rfl:r=sheetB size hs:=HE.out
  have hsh:=sheetCheck_any size w HS.out hz
  cases hd:sheetB size hs
  all_goals
   rw [hd] at hsh
   have HC:=J hsh
   clear hsh
   refine gg hfr fun t=>?_
   go_wp2_with fail
   refine HC.out.mono ?_
   rintro e w1 ⟨rfl,hb1⟩
   have HW1:=J (HW.out.trans (hb1.mono HW.out.size))
   clear hb1
   unfold errB
   exact Y48
 by_cases k2:kind=2
 ·skip
  have e:r=(p&&(q&&bareB size hn)):=by rw [HR.out];simp [kindB,k2,HL.out];rw [HQ.out]
  have HE:=J e
  have e0:(kind==1)=false:=by simp [k1]
  have e1:(kind==2)=true:=by simp [k2]
  clear e
  cases p
  ·obtain rfl:r=false:=HE.out
   exact Y14
  cases q
  ·obtain rfl:r=false:=HE.out
   exact Y14
  obtain rfl:r=bareB size hn:=HE.out
  have hsh:=bare_any size A hn hc w
  cases hd:bareB size hn
  all_goals
   exact Y155
 by_cases k3:kind=3
 ·subst k3
  obtain⟨c0,c1⟩:=HB.out.cs 0 2
  obtain⟨c3,c4,c5,c6⟩:=HB.out.cs 3 4
  have e:r=(p&&blankB client seq name size hn):=by rw [HR.out];simp [kindB,HL.out]
  have HE:=J e
  clear e k1 k2
  cases p
  ·obtain rfl:r=false:=HE.out
   exact Y14
  obtain rfl:r=blankB client seq name size hn:=HE.out
  have hsh:=blank_any n epoch 3 site client seq name size A hn hc w
  cases hd:blankB client seq name size hn
  all_goals
   exact Y155
 have e:r=false:=by rw [HR.out];simp [kindB,k1,k2,k3]
 have e1:(kind==1)=false:=by simp [k1]
 have e2:(kind==2)=false:=by simp [k2]
 have e3:(kind==3)=false:=by simp [k3]
 subst e
 refine gg hfr fun t=>?_
 go_wp2_with fail
 go_ret
 exact⟨rfl,HW.out⟩
end
end
theorem checkOp_any {A:O} {n c:Nat} (o:OpC) {S:Nat->Prop} (w:World) (h:StrIs w S A n c o.hs) (hn:n<=140737488351232) :
 Calls prog 84 #[.agg (opCells o.n o.epoch o.kind o.site o.client o.seq o.name o.size A n c)] w fun x w'=>x=.returned (.int .i64 (errB (opB o)))/\Below w w w':=by
 have hb0:Below w w (w.alloc (.cells (opCells o.n o.epoch o.kind o.site o.client o.seq o.name o.size A n c) 45)):=(Below.refl _ _).alloc (Nat.le_refl _) _
 have hbk:=Blk.new w 45 (opCells o.n o.epoch o.kind o.site o.client o.seq o.name o.size A n c)
 obtain⟨HB,HK⟩:=J2 hb0 hbk
 have HS:=J (h.below hb0)
 clear h hb0 hbk
 go_enter func84,ntmps84
 conv=>arg 2;arg 2;change part [1] (codeOf chkOpF)
 go_wp2_with fail
 refine Wt ?_
 refine chkOp1 _ _ ff HK.out fun a1 hf1=>?_
 show (part [1,1] (codeOf chkOpF)).wp prog _ a1 _
 refine Wt ?_
 refine chkOp2 _ a1 hf1 HK.out fun a2 hf2=>?_
 exact chkOp3 (opB o) rfl a2 hf2 HK.out HS.out hn HB.out
@[reducible] noncomputable def rowF:Func:=Try.f86
def stepB (E st:Int) (o:OpC):Bool:=if o.kind=3 then decide (E<o.epoch) else decide (o.epoch=E)&&(decide (st<0)||decide (o.site=st))
def rowFrom:Int->Int->Int->List OpC->Bool
 | _,_,_,[]=>true
 | N,E,st,o::os=>opB o&&(decide (o.n=N+1)&&(stepB E st o&&rowFrom o.n o.epoch o.site os))
def rowHead (N E:Int):Bool:=decide (0<=N)&&(decide (N<=80)&&(decide (0<=E)&&(decide (E<=16)&&decide (N=0↔E=0))))
def rowB (N E:Int) (os:List OpC):Bool:=rowHead N E&&rowFrom N E (-1) os
section
variable {E N:Int} {os:List OpC} {b c k n:Nat} {S:Nat->Prop} {A:O} {o:OpC} {v:Value} {W w:World}
theorem opB_n (h:opB o=true):1<=o.n/\o.n<=80/\0<=o.site/\o.site<2/\1<=o.epoch/\o.epoch<=16:=by
 unfold opB headB reignB at h
 simp only [Bool.and_eq_true,decide_eq_true_eq] at h
 omega
theorem drop_at (h:os[k]? = some o):os.drop k=o::os.drop (k+1):=by
 obtain⟨h1,h2⟩:=List.getElem?_eq_some_iff.1 h
 rw [List.drop_eq_getElem_cons h1,h2]
theorem kept_set2 (hS:¬ S b) (x y:Value):Kept S w ((w.setCell ⟨b,0,none⟩ x).setCell ⟨b,1,none⟩ y).drew:=
 ⟨by simp,fun b' h1 _=>(Below.heap_setCell _ _ _ b' (by rintro rfl;exact hS h1)).trans (Below.heap_setCell _ _ _ b' (by rintro rfl;exact hS h1))⟩
theorem row1 (Q:Z) (a:Act) (hfr:Fr 95 a [(1,v),(2,b)]) (hb:Blk w b 26 #[N,E]) (hQ:∀ a',Fr 95 a' [(1,v),(2,b),(35,(!rowHead N E))]->Q .normal a' w) :
 (part [1,0,0] (codeOf rowF)).wp prog Q a w:=by
 obtain⟨c0,c1⟩:=hb.cs 0 2
 have HQ:=J hQ
 clear hQ hb
 refine gg hfr fun t=>?_
 go_wp2_with fail
 all_goals
  refine HQ.out _ ⟨rfl,rfl,rfl,rfl,?_,trivial⟩
  refine congrArg Value.bool ?_
  by_cases q1:N=0<;>by_cases q2:E=0<;>(rw [Bool.eq_iff_iff];simp [rowHead,q1,q2];(try rw [beq_eq_false_iff_ne.2 q1,beq_eq_false_iff_ne.2 q2]);(try simp);(try omega))
theorem row2 (r:Bool) (hr:r=rowFrom N E (-1) os) (hN:0<=N/\N<=80) (a:Act) (hfr:Fr 95 a [(1,.slice A n c),(2,b)]) (hb:Blk w b 26 #[N,E]) (hbW:W.heap.size<=b) (hS:¬ S b) (ho:OpsIs w S A n c os) (hn:n<=4294967296) (hok:∀ o∈os,o.Ok) (hw:Below W W w) :
 (part [1,1] (codeOf rowF)).wp prog (bodyPost prog rowF fun x w'=>x=.returned (.bool r)/\Below W W w') a w:=by
 have hlen:=ho.len
 obtain⟨HO,HK,HW,HL,HOK,HR⟩:=J6 ho hb hw hlen hok hr
 clear hb ho hw hlen hok hr
 refine gg hfr fun t=>?_
 go_wp2_with fail
 go_loopw [5,38] (fun s i wr=>∃ (k:Nat) (N E st:Int),k<=n/\i=.int .i64 k/\s=.int .i64 st/\Blk wr b 26 #[N,E]/\0<=N/\N<=80/\r=rowFrom N E st (os.drop k)/\OpsIs wr S A n c os/\Below W W wr) (fun _ i _=>n-(intOf i).toNat)
 case atStart=>exact⟨0,N,E,-1,by omega,rfl,rfl,HK.out,hN.1,hN.2,HR.out,HO.out,HW.out⟩
 case round=>
  obtain⟨k,N,E,st,hk,rfl,rfl,hkb,hN1,hN2,hr,ho,hw⟩:=hrel
  obtain⟨HK,HO,HW⟩:=J3 hkb ho hw
  rcases Nat.lt_or_ge k n with hk1|hk1
  ·obtain⟨ad,o,hA,hn1,hc1,rfl,hab,hck,hop,hss⟩:=ho.at_ hk1
   rw [drop_at hck] at hr
   have HR:=J hr
   have hok:=HOK.out o (List.mem_of_getElem? hck)
   have hz:hn1<=140737488351232:=by have:=hok.hs;have:=hss.len;omega
   have hb0:Below wr wr (wr.alloc (.cells (opCells o.n o.epoch o.kind o.site o.client o.seq o.name o.size hA hn1 hc1) 45)):=(Below.refl _ _).alloc (Nat.le_refl _) _
   have hce:=checkOp_any o _ (hss.below hb0) hz
   obtain⟨k0,k1,k2,k3,k4,k5,k6,k7,k8⟩:=hop
   simp only [OpC.at_] at k0 k1 k2 k3 k4 k5 k6 k7 k8
   have b1:(0:Int)<=(k:Int):=by omega
   have b2:(k:Int)<(n:Int):=by omega
   obtain⟨v,hv⟩:∃ v,v=errB (opB o):=⟨_,rfl⟩
   rw [<-hv] at hce
   obtain⟨HC,HV⟩:=J2 hce hv
   have HK0:=J (hkb.below hb0 hkb.lt)
   have HP0:=J (Blk.new wr 45 (opCells o.n o.epoch o.kind o.site o.client o.seq o.name o.size hA hn1 hc1))
   have HW0:=J (hw.trans (hb0.mono hw.size))
   have HO0:=J (ho.below hb0)
   clear hce hv hb0 hkb hw ho hss hr hok
   go_wp2_with fail
   refine HC.out.mono ?_
   rintro e w1 ⟨rfl,hb1⟩
   have hk1':=HK0.out.below hb1 HK0.out.lt
   have hp1:=HP0.out.below hb1 HP0.out.lt
   obtain⟨HK1,HP1⟩:=J2 hk1' hp1
   have HW1:=J (HW0.out.trans (hb1.mono HW0.out.size))
   have HO1:=J (HO0.out.below hb1)
   obtain⟨d0,d1⟩:=hk1'.cs 0 2
   obtain⟨p0,p1⟩:=hp1.cs 0 2
   have p3:=hp1.c1 3
   have f0:w1.frozen? ⟨b,0,none⟩=false:=hk1'.frozen 0
   have f1:w1.frozen? ⟨b,1,none⟩=false:=hk1'.frozen 1
   clear hb1 hk1' hp1 k0 k1 k2 k3 k4 k5 k6 k7 k8
   have w9:wrap64 (N+1)=N+1:=wrap_id (by omega)
   cases hob:opB o
   ·have e:=HV.out
    rw [hob] at e
    obtain rfl:v=3:=e
    have hr2:r=false:=by rw [HR.out];simp [rowFrom,hob]
    subst hr2
    exact Y48
   have e:=HV.out
   rw [hob] at e
   obtain rfl:v=0:=e
   have hon:=opB_n hob
   by_cases hNn:o.n=N+1
   ·by_cases hk3:o.kind=3
    ·have xk:(o.kind==3)=true:=by rw [hk3];rfl
     by_cases hE:E<o.epoch
     ·have x1:decide (o.epoch<=E)=false:=decide_eq_false (by omega)
      have hr2:r=rowFrom o.n o.epoch o.site (os.drop (k+1)):=by rw [HR.out];simp [rowFrom,stepB, *]
      rw [hNn] at hr2
      have HR2:=J hr2
      clear hr2
      go_wp2_with fail
      go_region
      go_wp2_with fail
      go_roundw
      case rel=>exact⟨k+1,N+1,o.epoch,o.site,by omega,by go_num,rfl,set2 HK1.out _ _,by omega,by omega,HR2.out,HO1.out.kept (kept_set2 hS _ _),((HW1.out.setCell hbW _).setCell hbW _).drew⟩
      case measure=>simp [intOf];omega
     ·have x1:decide (o.epoch<=E)=true:=decide_eq_true (by omega)
      exact Y163
    ·have xk:(o.kind==3)=false:=beq_eq_false_iff_ne.2 hk3
     by_cases hE:o.epoch=E
     ·by_cases hst:st<0
      ·have x1:decide (0<=st)=false:=decide_eq_false (by omega)
       have hr2:r=rowFrom o.n o.epoch o.site (os.drop (k+1)):=by rw [HR.out];simp [rowFrom,stepB, *]
       rw [hNn,hE] at hr2
       have HR2:=J hr2
       clear hr2
       go_wp2_with fail
       go_region
       go_wp2_with fail
       go_roundw
       case rel=>exact⟨k+1,N+1,E,o.site,by omega,by go_num,rfl,set2 HK1.out _ _,by omega,by omega,HR2.out,HO1.out.kept (kept_set2 hS _ _),((HW1.out.setCell hbW _).setCell hbW _).drew⟩
       case measure=>simp [intOf];omega
      ·have x1:decide (0<=st)=true:=decide_eq_true (by omega)
       by_cases hs:o.site=st
       ·skip
        have hr2:r=rowFrom o.n o.epoch o.site (os.drop (k+1)):=by rw [HR.out];simp [rowFrom,stepB, *]
        rw [hNn,hE,hs] at hr2
        have HR2:=J hr2
        clear hr2
        go_wp2_with fail
        go_region
        go_wp2_with fail
        go_roundw
        case rel=>exact⟨k+1,N+1,E,st,by omega,by go_num,rfl,set2 HK1.out _ _,by omega,by omega,HR2.out,HO1.out.kept (kept_set2 hS _ _),((HW1.out.setCell hbW _).setCell hbW _).drew⟩
        case measure=>simp [intOf];omega
       ·have x2:(o.site != st)=true:=bne_iff_ne.2 hs
        have hr2:r=false:=by rw [HR.out];simp [rowFrom,stepB,hk3,hst,hs]
        subst hr2
        exact Y48
     ·have x2:(o.epoch != E)=true:=bne_iff_ne.2 hE
      exact Y163
   ·have x2:(o.n != N+1)=true:=bne_iff_ne.2 hNn
    have hr2:r=false:=by rw [HR.out];simp [rowFrom,hNn]
    subst hr2
    exact Y48
  ·obtain rfl:n=k:=by omega
   have hr2:r=true:=by rw [hr,List.drop_eq_nil_of_le (by rw [HL.out];exact Nat.le_refl _)];rfl
   subst hr2
   go_wp2_with fail
   go_ret
   exact⟨rfl,HW.out⟩
theorem row0r (a:Act) (v:Value) (hw:Below W W w) (hfr:Fr 95 a [(1,v)]) (Q:Z) (hQ:∀ a' w',bodyPost prog rowF (fun x w'=>x=.returned (.bool false)/\Below W W w') .ret a' w'->Q .ret a' w'):(part [1,0,1,0] (codeOf rowF)).wp prog Q a w:=by
 have HQ:=J hQ
 clear hQ
 refine gg hfr fun t=>?_
 go_wp2_with fail
 exact HQ.out _ _ (bodyPost_ret (results_tmp rfl _ _ _) rfl ⟨rfl,hw⟩)
theorem row_any (N E:Int) (w:World) (h:OpsIs w S A n c os) (hn:n<=4294967296) (hok:∀ o∈os,o.Ok) :
 Calls prog 86 #[.agg #[N,E],.slice A n c] w fun x w'=>x=.returned (.bool (rowB N E os))/\Below w w w':=by
 have hb0:Below w w (w.alloc (.cells #[N,E] 26)):=(Below.refl _ _).alloc (Nat.le_refl _) _
 have hbk:=Blk.new w 26 #[N,E]
 obtain⟨HB,HK⟩:=J2 hb0 hbk
 have HO:=J ((h.mono (S':=fun b=>S b/\b<w) fun b hb hs=>⟨hs,hb⟩).below hb0)
 obtain⟨r,hr⟩:∃ r,r=rowB N E os:=⟨_,rfl⟩
 rw [<-hr]
 have HR:=J hr
 clear h hb0 hbk hr
 go_enter func86,ntmps86
 conv=>arg 2;arg 2;change part [1] (codeOf rowF)
 go_wp2_with fail
 refine Wt ?_
 refine Wt ?_
 refine row1 _ _ ff HK.out fun a1 hf1=>?_
 show (part [1,0,1] (codeOf rowF)).wp prog _ a1 _
 refine wp_if (x:=part [1,0,1,0] (codeOf rowF)) (y:=part [1,0,1,1] (codeOf rowF)) (o:=.tmp 35) kr (eval_at hf1.2.2.2.2.1 rfl) (fun ht=>?_) fun ht=>?_
 ·have e:r=false:=by rw [HR.out];unfold rowB;rw [show rowHead N E=false by simpa using ht];rfl
  subst e
  exact row0r a1 _ HB.out ⟨hf1.1,hf1.2.1,hf1.2.2.1,trivial⟩ _ fun _ _ h=>h
 have hh:rowHead N E=true:=by simpa using ht
 refine wp_nop kr ?_
 show (part [1,1] (codeOf rowF)).wp prog _ a1 _
 refine row2 r (by rw [HR.out];unfold rowB;rw [hh];rfl) ?_ a1 ⟨hf1.1,hf1.2.1,hf1.2.2.1,hf1.2.2.2.1,trivial⟩ HK.out (Nat.le_refl _) (fun hs=>Nat.lt_irrefl _ hs.2) HO.out hn hok HB.out
 unfold rowHead at hh
 simp only [Bool.and_eq_true,decide_eq_true_eq] at hh
 exact⟨hh.1,hh.2.1⟩
end
@[reducible] noncomputable def chkF:Func:=Try.f42
@[reducible] def cmdCells (ck ce cs n epoch kind site client seq:Int) (name:ByteArray) (size:Int) (hA:O) (hn hc:Nat) (after since:Int) (pA:O) (pn pc:Nat) (tag:Int):Array Value:=
 #[ck,ce,cs,n,epoch,kind,site,client,seq,.string name,size,.slice hA hn hc,after,since,.slice pA pn pc,tag]
def noneB (n epoch kind site client seq:Int) (name:ByteArray) (size:Int) (hn:Nat):Bool:=decide (n=0)&&(decide (epoch=0)&&(decide (kind=0)&&(decide (site=0)&&blankB client seq name size hn)))
def shortB (after since:Int) (pn:Nat):Bool:=decide (after=0)&&(decide (since=0)&&decide (pn=0))
def nobodyB (e s:Int):Bool:=decide (e=0)&&decide (s=0)
section
variable {ck ce cs n epoch kind site client seq:Int} {name:ByteArray} {size:Int} {hA:O} {hn hc:Nat} {after since:Int} {pA:O} {pn pc:Nat} {tag:Int}
section
variable {p q s:Bool} {b:Nat} {W w:World}
section
variable (Q:Z) (a:Act)
include Q a
theorem chk1 (hfr:Fr 250 a [(1,b),(2,.int .i64 0)]) (hb:Blk w b 47 (cmdCells ck ce cs n epoch kind site client seq name size hA hn hc after since pA pn pc tag)) (hQ:∀ a' w',Fr 250 a' [(1,b),(2,.int .i64 0),(3,.bool (noneB n epoch kind site client seq name size hn))]->Below w w w'->Q .normal a' w') :
 (part [1,0] (codeOf chkF)).wp prog Q a w:=by
 obtain⟨c3,c4,c5,c6,c7,c8,c9,c10,c11⟩:=hb.cs 3 9
 have HQ:=J hQ
 clear hQ hb
 refine gg hfr fun t=>?_
 go_wp2_with fail
 ·refine (blank_any _ _ _ _ _ _ _ _ _ _ _ _).mono ?_
  rintro e w1 ⟨rfl,hb1⟩
  have HB1:=J hb1
  clear hb1
  go_wp2_with fail
  refine HQ.out _ _ ⟨rfl,rfl,rfl,rfl,?_,trivial⟩ HB1.out
  rename_i h1 h2 h3 h4
  simp [noneB,h1,h2,h3,h4,at_]
 all_goals
  refine HQ.out _ _ ⟨rfl,rfl,rfl,rfl,?_,trivial⟩ (Below.refl _ _)
  refine congrArg Value.bool ?_
  rw [Bool.eq_iff_iff]
  simp [noneB]
  try omega
theorem chk2 (hfr:Fr 250 a [(1,b),(2,.int .i64 0),(3,p)]) (hb:Blk w b 47 (cmdCells ck ce cs n epoch kind site client seq name size hA hn hc after since pA pn pc tag)) (hQ:∀ a' w',Fr 250 a' [(1,b),(2,.int .i64 0),(3,p),(4,.bool (shortB after since pn))]->Below w w w'->Q .normal a' w') :
 (part [1,1,0] (codeOf chkF)).wp prog Q a w:=by
 obtain⟨c12,c13,c14⟩:=hb.cs 12 3
 have HQ:=J hQ
 clear hQ hb
 refine gg hfr fun t=>?_
 go_wp2_with fail
 all_goals
  refine HQ.out _ _ ⟨rfl,rfl,rfl,rfl,rfl,?_,trivial⟩ (Below.refl _ _)
  refine congrArg Value.bool ?_
  rw [Bool.eq_iff_iff]
  simp [shortB]
  try omega
theorem chk3 (hfr:Fr 250 a [(1,b),(2,.int .i64 0),(3,p),(4,q)]) (hb:Blk w b 47 (cmdCells ck ce cs n epoch kind site client seq name size hA hn hc after since pA pn pc tag)) (hQ:∀ a' w',Fr 250 a' [(1,b),(2,.int .i64 0),(3,p),(4,q),(5,.bool (nobodyB ce cs))]->Below w w w'->Q .normal a' w') :
 (part [1,1,1,0] (codeOf chkF)).wp prog Q a w:=by
 obtain⟨c1,c2⟩:=hb.cs 1 2
 have HQ:=J hQ
 clear hQ hb
 refine gg hfr fun t=>?_
 go_wp2_with fail
 all_goals
  refine HQ.out _ _ ⟨rfl,rfl,rfl,rfl,rfl,rfl,?_,trivial⟩ (Below.refl _ _)
  refine congrArg Value.bool ?_
  rw [Bool.eq_iff_iff]
  simp [nobodyB]
  try omega
end
theorem chkK0 (r:Bool) (hr:r=(p&&(q&&(s&&(decide (tag=0)))))) (a:Act) (hfr:Fr 250 a [(1,b),(2,.int .i64 0),(3,p),(4,q),(5,s)]) (hb:Blk w b 47 (cmdCells 0 ce cs n epoch kind site client seq name size hA hn hc after since pA pn pc tag)) (hw:Below W W w) :
 (part [1,1,1,1] (codeOf chkF)).wp prog (bodyPost prog chkF fun x w'=>x=.returned (.int .i64 (errB r))/\Below W W w') a w:=by
 have c0:=hb.c1 0
 have c15:=hb.c1 15
 obtain⟨HW,HE⟩:=J2 hw hr
 clear hb hw hr
 cases p
 ·obtain rfl:r=false:=HE.out
  exact Y14
 cases q
 ·obtain rfl:r=false:=HE.out
  exact Y14
 cases s
 ·obtain rfl:r=false:=HE.out
  exact Y14
 have he:r=(decide (tag=0)):=HE.out
 clear HE
 by_cases ht:tag=0
 rotate_left
 ·obtain rfl:r=false:=by rw [he];simp [ht]
  have et:(tag==0)=false:=beq_eq_false_iff_ne.2 ht
  clear ht he
  exact Y14
 obtain rfl:r=true:=by rw [he];simp [ht]
 have et:(tag==0)=true:=by rw [ht];rfl
 clear ht he
 refine gg hfr fun t=>?_
 go_wp2_with fail
 go_ret
 exact⟨rfl,HW.out⟩
theorem chkK2 (r:Bool) (hr:r=(p&&(q&&(s&&(tagB tag))))) (a:Act) (hfr:Fr 250 a [(1,b),(2,.int .i64 0),(3,p),(4,q),(5,s)]) (hb:Blk w b 47 (cmdCells 2 ce cs n epoch kind site client seq name size hA hn hc after since pA pn pc tag)) (hw:Below W W w) :
 (part [1,1,1,1] (codeOf chkF)).wp prog (bodyPost prog chkF fun x w'=>x=.returned (.int .i64 (errB r))/\Below W W w') a w:=by
 have c0:=hb.c1 0
 have c15:=hb.c1 15
 obtain⟨HW,HE⟩:=J2 hw hr
 clear hb hw hr
 cases p
 ·obtain rfl:r=false:=HE.out
  exact Y14
 cases q
 ·obtain rfl:r=false:=HE.out
  exact Y14
 cases s
 ·obtain rfl:r=false:=HE.out
  exact Y14
 have he:r=(tagB tag):=HE.out
 clear HE
 subst he
 cases hv:tagB tag
 all_goals
  refine gg hfr fun t=>?_
  go_wp2_with fail
  refine (tagged_any _ _).mono ?_
  exact Y85
theorem chkK4 (r:Bool) (hr:r=(p&&(q&&(decide (tag=0)&&reignB ce cs)))) (a:Act) (hfr:Fr 250 a [(1,b),(2,.int .i64 0),(3,p),(4,q),(5,s)]) (hb:Blk w b 47 (cmdCells 4 ce cs n epoch kind site client seq name size hA hn hc after since pA pn pc tag)) (hw:Below W W w) :
 (part [1,1,1,1] (codeOf chkF)).wp prog (bodyPost prog chkF fun x w'=>x=.returned (.int .i64 (errB r))/\Below W W w') a w:=by
 obtain⟨c0,c1,c2⟩:=hb.cs 0 3
 have c15:=hb.c1 15
 obtain⟨HW,HE⟩:=J2 hw hr
 clear hb hw hr
 cases p
 ·obtain rfl:r=false:=HE.out
  exact Y14
 cases q
 ·obtain rfl:r=false:=HE.out
  exact Y14
 have he:r=(decide (tag=0)&&reignB ce cs):=HE.out
 clear HE
 by_cases ht:tag=0
 rotate_left
 ·obtain rfl:r=false:=by rw [he];simp [ht]
  have et:(tag==0)=false:=beq_eq_false_iff_ne.2 ht
  clear ht he
  exact Y14
 have he2:r=reignB ce cs:=by rw [he];simp [ht]
 have et:(tag==0)=true:=by rw [ht];rfl
 clear ht he
 subst he2
 cases hv:reignB ce cs
 all_goals
  exact Y165
end
end
@[reducible] noncomputable def shippedF:Func:=Try.f107
def shipB (epoch atN atE:Int) (ops:List OpC):Bool:=
 ((((decide (1<=epoch)&&decide (epoch<=16))&&decide (ops.length<=8))&&decide (atE<=epoch))&&rowB atN atE ops)&&ops.all fun o=>decide (o.epoch<=epoch)
theorem all_take {f:OpC->Bool} {l:List OpC} {k:Nat} {x:OpC} (h:l[k]? = some x):(l.take (k+1)).all f=((l.take k).all f&&f x):=by
 rw [List.take_add_one,h]
 simp
section
variable {kind term index prev commit:Int} {good:Bool} {eA:O} {en ec:Nat} {data:ByteArray} {hA:O} {hn hc:Nat} {epoch site atN atE whN whE:Int} {oA:O} {on oc:Nat} {pA:O} {pn pc:Nat} {ops:List OpC} {S:Nat->Prop}
section
variable {p r:Bool} {b:Nat} {W w:World}
theorem shp1 (a:Act) (hfr:Fr 48 a [(1,b),(3,p)]) (hk:Blk w b 30 (mailC kind term index prev commit good eA en ec data hA hn hc epoch site atN atE whN whE oA on oc pA pn pc)) (ho:OpsIs w S pA pn pc ops) (hz:pn<=4294967296) (hb:Below W W w) (hr:r=(p&&ops.all fun o=>decide (o.epoch<=epoch))) :
 (part [1,1] (codeOf shippedF)).wp prog (bodyPost prog shippedF fun x w'=>x=.returned (.bool r)/\Below W W w') a w:=by
 have hlen:=ho.len
 have k16:=hk.c1 16
 have k9:=hk.c1 9
 obtain⟨HK,HO,HB,HR,HL⟩:=J5 hk ho hb hr hlen
 have hbl:=hk.lt
 clear hk ho hb hr hlen
 refine gg hfr fun t=>?_
 go_wp2_with fail
 go_loopw [3,34] (fun v i wr=>∃ k:Nat,k<=pn/\i=.int .i64 k/\v=.bool (p&&(ops.take k).all fun o=>decide (o.epoch<=epoch))/\Below w w wr) (fun _ i _=>pn-(intOf i).toNat)
 case atStart=>exact⟨0,by omega,rfl,by simp,Below.refl _ _⟩
 case round=>
  obtain⟨k,hk,rfl,rfl,hbw⟩:=hrel
  have hkb:=HK.out.below hbw hbl
  have k9':=hkb.cell 9
  simp at k9'
  have HBW:=J hbw
  rcases Nat.lt_or_ge k pn with hk1|hk1
  ·obtain⟨ad,o,xA,xn,xc,rfl,hab,hck,hop,hss⟩:=(HO.out.below hbw).at_ hk1
   have HT:=J (all_take (f:=fun o=>decide (o.epoch<=epoch)) hck)
   obtain⟨c0,c1,c2,c3,c4,c5,c6,c7,c8⟩:=hop
   simp only [OpC.at_] at c0 c1 c2 c3 c4 c5 c6 c7 c8
   have d1:decide ((k:Int)<(pn:Int))=true:=decide_eq_true (by omega)
   have d2:decide (k<pn)=true:=decide_eq_true hk1
   have z2:(0:Int)<=(k:Nat):=by omega
   have z3:((k:Nat):Int)<((pn:Nat):Int):=by omega
   have hkb2:=(hkb.alloc (.cells (oC o.n o.epoch o.kind o.site o.client o.seq o.name o.size xA xn xc) 45)).cell 9
   simp at hkb2
   clear hbw hkb hck hss hab
   obtain⟨q,hq⟩:∃ q,q=(p&&(ops.take k).all fun o=>decide (o.epoch<=epoch)):=⟨_,rfl⟩
   rw [<-hq]
   have HQ:=J hq
   clear hq
   cases q with
   | true=>
    go_wp2
    refine⟨⟨k+1,hk1,rfl,?_,HBW.out.alloc HBW.out.size _⟩,by simp only [intOf];omega⟩
    rw [HT.out,<-Bool.and_assoc,<-HQ.out,Bool.true_and]
   | false=>
    go_wp2
    refine⟨⟨k+1,hk1,rfl,?_,HBW.out.alloc HBW.out.size _⟩,by simp only [intOf];omega⟩
    rw [HT.out,<-Bool.and_assoc,<-HQ.out,Bool.false_and]
  ·obtain rfl:k=pn:=by omega
   have d1:decide ((k:Int)<(k:Int))=false:=decide_eq_false (by omega)
   have d2:decide (k<k)=false:=decide_eq_false (by omega)
   clear hbw hkb
   go_wp2
   have e:ops.take k=ops:=List.take_of_length_le (by have:=HL.out;omega)
   rw [e]
   refine bodyPost_ret (results_tmp rfl _ _ _) rfl ⟨?_,HB.out.trans (HBW.out.mono HB.out.size)⟩
   rw [HR.out];rfl
theorem shipped_any (w:World) (ho:OpsIs w S pA pn pc ops) (hz:pn<=4294967296) (hok:∀ o∈ops,o.Ok) :
 Calls prog 107 #[.agg (mailC kind term index prev commit good eA en ec data hA hn hc epoch site atN atE whN whE oA on oc pA pn pc)] w fun x w'=>x=.returned (.bool (shipB epoch atN atE ops))/\Below w w w':=by
 have hlen:=ho.len
 have hbk:=Blk.new w 30 (mailC kind term index prev commit good eA en ec data hA hn hc epoch site atN atE whN whE oA on oc pA pn pc)
 have hb0:Below w w (w.alloc (.cells (mailC kind term index prev commit good eA en ec data hA hn hc epoch site atN atE whN whE oA on oc pA pn pc) 30)):=(Below.refl _ _).alloc (Nat.le_refl _) _
 have hs0:(w.alloc (.cells (mailC kind term index prev commit good eA en ec data hA hn hc epoch site atN atE whN whE oA on oc pA pn pc) 30)).heap.size=w.heap.size+1:=by simp
 obtain⟨w0,hw0⟩:∃ w0,w0=w.alloc (.cells (mailC kind term index prev commit good eA en ec data hA hn hc epoch site atN atE whN whE oA on oc pA pn pc) 30):=⟨_,rfl⟩
 rw [<-hw0] at hbk hb0 hs0
 have hb1:Below w0 w0 (w0.alloc (.cells #[epoch] 3)):=(Below.refl _ _).alloc (Nat.le_refl _) _
 have hk1:=hbk.below hb1 (by omega)
 have ho1:=(ho.below hb0).below hb1
 have hb2:=hb0.trans (hb1.mono (by omega))
 have k9:=hbk.c1 9
 have j9:=hk1.c1 9
 obtain⟨j11,j12⟩:=hk1.cs 11 2
 have j16:=hk1.c1 16
 obtain⟨HW,HK1,HO1,HB2⟩:=J4 hw0 hk1 ho1 hb2
 have HROW:=J (row_any atN atE _ ho1 hz hok)
 obtain⟨HZ,HS0⟩:=J2 hz hs0
 obtain⟨x1,hx1⟩:∃ x,x=(decide (1<=epoch)&&decide (epoch<=16)):=⟨_,rfl⟩
 obtain⟨x2,hx2⟩:∃ x,x=decide (ops.length<=8):=⟨_,rfl⟩
 obtain⟨x3,hx3⟩:∃ x,x=decide (atE<=epoch):=⟨_,rfl⟩
 have hres:shipB epoch atN atE ops=((((x1&&x2)&&x3)&&rowB atN atE ops)&&ops.all fun o=>decide (o.epoch<=epoch)):=by rw [hx1,hx2,hx3];rfl
 have hx2':decide ((pn:Int)<=8)=x2:=by rw [hx2,hlen];exact decide_eq_decide.2 (by omega)
 obtain⟨HX1,HRES⟩:=J2 hx1 hres
 have hx3':decide (atE<=epoch)=x3:=hx3.symm
 clear ho hok hbk hb0 hw0 hb1 hk1 ho1 hb2 hx1 hx2 hx3 hres hlen hz
 go_enter func107,ntmps107
 conv=>arg 2;arg 2;arg 2;change part [1,1] (codeOf shippedF)
 go_wp2_with fail
 rw [<-HW.out]
 go_wp2_with fail
 refine (within_new 1 16 epoch _ _ _ (by simp [HS0.out])).mono ?_
 rintro e w1 ⟨rfl,rfl⟩
 rw [<-HX1.out]
 cases x1 with
 | false=>
  exact Y93
 | true=>
  cases x2 with
  | false=>
   exact Y93
  | true=>
   cases x3 with
   | false=>
    exact Y93
   | true=>
    go_wp2_with fail
    refine HROW.out.mono ?_
    rintro e w2 ⟨rfl,hb3⟩
    have hk2:=HK1.out.below hb3 HK1.out.lt
    have ho2:=HO1.out.below hb3
    have hb4:=HB2.out.trans (hb3.mono HB2.out.size)
    have HQ:=J (And.intro hk2 (And.intro ho2 hb4))
    clear hk2 ho2 hb4 hb3
    go_wp2_with fail
    exact shp1 _ ff HQ.out.1 HQ.out.2.1 HZ.out HQ.out.2.2 (by rw [HRES.out];rfl)
end
end
section
variable {E N:Int} {c n:Nat} {A:O}
theorem Try.sizeReach:(prog.info? 32).map (·.size)=some 3:=by kernel_rfl
theorem reachC_one:(#[N,E,.slice A n c]:Array Value).all (·.oneCell')=true:=all_oneCell_toArray (by
 intro v hv
 simp only [List.mem_cons,List.not_mem_nil,or_false] at hv
 rcases hv with rfl|rfl|rfl<;>rfl)
end
def ReachIs (w:World) (S:Nat->Prop) (b:Nat) (N E:Int) (holes:List Int):Prop:=
 ∃ A n c,Blk w b 32 #[N,E,.slice A n c]/\IntIs w S A n c holes
theorem ReachIs.below {w w':World} {S:Nat->Prop} {b:Nat} {N E:Int} {holes:List Int} (h:ReachIs w S b N E holes) (hb:Below w w w'):ReachIs w' S b N E holes:=by
 obtain⟨A,n,c,h1,h2⟩:=h
 exact⟨A,n,c,h1.below hb h1.lt,h2.below hb⟩
def RBlk (w:World) (b:Nat):Prop:=∃ cs,Blk w b 32 cs/\cs.size=3
theorem RBlk.below {w w':World} {b:Nat} (h:RBlk w b) (hb:Below w w w'):RBlk w' b:=by
 obtain⟨cs,h1,h2⟩:=h
 exact⟨cs,h1.below hb h1.lt,h2⟩
theorem has_any {A:O} {n cap g c1:Nat} {N E:Int} {S:Nat->Prop} (cs:List OpC) (w:World) (h:OpsIs w S A n cap cs) (hz:n<=4294967296) (hg:Blk w g 26 #[N,E]) :
 Calls prog 54 #[.slice A n cap,.slice (some ⟨g,0,none⟩) 1 c1] w fun x w'=>x=.returned (.bool (hasB cs N E))/\Below w w w':=by
 have hl:=h.len
 by_cases h0:N=0/\E=0
 ·have e:hasB cs N E=true:=by simp [hasB,h0.1,h0.2]
  rw [e]
  exact has_zero w hg h0.1 h0.2
 have e0:(decide (N=0)&&decide (E=0))=false:=by
  rw [Bool.and_eq_false_imp]
  intro h1
  exact decide_eq_false fun h2=>h0 ⟨of_decide_eq_true h1,h2⟩
 by_cases h1:N<1
 ·have e : hasB cs N E = false := by
   have:decide (1<=N)=false:=decide_eq_false (by omega)
   simp only [hasB,e0,this,Bool.false_and,Bool.or_false]
  rw [e]
  exact has_low w hg h1 h0
 by_cases h2:(n:Int)<N
 ·have e : hasB cs N E = false := by
   have:decide (N<=(cs.length:Int))=false:=decide_eq_false (by omega)
   simp only [hasB,e0,this,Bool.false_and,Bool.and_false,Bool.or_false]
  rw [e]
  exact has_high w hg (by omega) h2
 obtain⟨k,hk⟩:∃ k:Nat,N=(k:Int)+1:=⟨(N-1).toNat,by omega⟩
 subst hk
 obtain⟨ad,c,hA,hn,hc,rfl,hb,ho,hop,hs⟩:=h.at_ (k:=k) (by omega)
 have e1:decide (1<=(k:Int)+1)=true:=decide_eq_true (by omega)
 have e2:decide ((k:Int)+1<=(cs.length:Int))=true:=decide_eq_true (by omega)
 have e3:((k:Int)+1-1).toNat=k:=by omega
 by_cases hne:c.n=(k:Int)+1/\c.epoch=E
 ·have e : hasB cs ((k : Int) + 1) E = true := by
   simp only [hasB,e0,e1,e2,e3,ho,hne.1,hne.2,decide_true,Bool.and_self,Bool.or_true]
  rw [e]
  exact has_yes c w hg (by omega) hz hb hop hne
 ·have e : hasB cs ((k : Int) + 1) E = false := by
   simp only [hasB,e0,e1,e2,e3,ho,Bool.true_and,Bool.false_or]
   rw [Bool.and_eq_false_imp]
   intro h1
   exact decide_eq_false fun h2=>hne ⟨of_decide_eq_true h1,h2⟩
  rw [e]
  exact has_not c w hg (by omega) hz hb hop hne
def further (cs:Array Value) (mN tN tE:Int):Array Value:=if mN<tN then (cs.setIfInBounds 0 (.int .i64 tN)).setIfInBounds 1 (.int .i64 tE) else cs
theorem further_any (b:Nat) (cs:Array Value) (t:TypeId) (mN mE tN tE:Int) (w:World) (h:Blk w b t cs) (h0:cs[0]? = some (.int .i64 mN)) (h1:cs[1]? = some (.int .i64 mE)) :
 Calls prog 78 #[.pointer (some ⟨b,0,none⟩),.agg #[tN,tE]] w fun x w'=>x=.returned (.tuple #[])/\Blk w' b t (further cs mN tN tE)/\Save b w w'/\Below b w w':=by
 have hl:=h.lt
 have hb:=h.alloc (.cells #[tN,tE] 26)
 have hw:Below w w (w.alloc (.cells #[tN,tE] 26)):=(Below.refl _ _).alloc (Nat.le_refl _) _
 have k0:=hb.cell 0
 have k1:=hb.cell 1
 rw [h0] at k0
 rw [h1] at k1
 have f0:=hb.frozen
 obtain⟨HW,HB⟩:=J2 hw hb
 clear h h0 h1 hb hw
 by_cases hlt:mN<tN
 ·have hd:decide (mN<tN)=true:=decide_eq_true hlt
  have HL:=J hlt
  clear hlt
  go_enter func78,ntmps78
  go_wp2_with fail
  go_quiet (fail)
  go_wp2_with fail
  refine bodyPost_end (results_none rfl _ _ _) rfl ?_
  refine⟨rfl,?_,?_,?_⟩
  ·have e:further cs mN tN tE=(cs.setIfInBounds 0 (.int .i64 tN)).setIfInBounds 1 (.int .i64 tE):=by unfold further;rw [if_pos HL.out]
   rw [e]
   exact ((HB.out.drewN _).set_ 0 _).set_ 1 _
  ·exact fun x h1 h2=>(Below.heap_setCell _ ⟨b,1,none⟩ _ x h2).trans ((Below.heap_setCell _ ⟨b,0,none⟩ _ x h2).trans (HW.out.block x h1))
  ·exact ((below_drewN (HW.out.mono (Nat.le_of_lt hl)) _).setCell (p:=⟨b,0,none⟩) (Nat.le_refl _) _).setCell (p:=⟨b,1,none⟩) (Nat.le_refl _) _
 ·have hd:decide (mN<tN)=false:=decide_eq_false hlt
  have HL:=J hlt
  clear hlt
  go_enter func78,ntmps78
  go_wp2_with fail
  go_quiet (fail)
  go_wp2_with fail
  refine bodyPost_end (results_none rfl _ _ _) rfl ?_
  refine⟨rfl,?_,?_,?_⟩
  ·have e:further cs mN tN tE=cs:=by unfold further;rw [if_neg (by have:=HL.out;omega)]
   rw [e]
   exact HB.out.drewN _
  ·exact fun x h1 h2=>HW.out.block x h1
  ·exact below_drewN (HW.out.mono (Nat.le_of_lt hl)) _
end Go.Proofs.Ytaipgdhdfpemcaa
