/- THE WALKS OF THE LANE, part 20. -/
import Derived.Test.YtaipgdhdfpemcaaF11
namespace Go.Proofs.Ytaipgdhdfpemcaa
set_option linter.all false
open Go.RowKit Go.Proofs.Try
set_option maxRecDepth 100000
set_option maxHeartbeats 4000000
@[reducible] noncomputable def chkF:Func:=Try.f42
@[reducible] def cmdCells (ck ce cs n epoch kind site client seq:Int) (name:ByteArray) (size:Int) (hA:O) (hn hc:Nat) (after since:Int) (pA:O) (pn pc:Nat) (tag:Int):Array Value:=
 #[ck,ce,cs,n,epoch,kind,site,client,seq,.string name,size,.slice hA hn hc,after,since,.slice pA pn pc,tag]
def noneB (n epoch kind site client seq:Int) (name:ByteArray) (size:Int) (hn:Nat):Bool:=decide (n=0)&&(decide (epoch=0)&&(decide (kind=0)&&(decide (site=0)&&blankB client seq name size hn)))
def shortB (after since:Int) (pn:Nat):Bool:=decide (after=0)&&(decide (since=0)&&decide (pn=0))
def nobodyB (e s:Int):Bool:=decide (e=0)&&decide (s=0)
section
variable {ck ce cs n epoch kind site client seq:Int} {name:ByteArray} {size:Int} {hA:O} {hn hc:Nat} {after since:Int} {pA:O} {pn pc:Nat} {tag:Int}
section
variable {p q s:Bool} {b:Nat} {W w:World}
section
variable (Q:Z) (a:Act)
include Q a
theorem chk1 (hfr:Fr 250 a [(1,b),(2,.int .i64 0)]) (hb:Blk w b 47 (cmdCells ck ce cs n epoch kind site client seq name size hA hn hc after since pA pn pc tag)) (hQ:∀ a' w',Fr 250 a' [(1,b),(2,.int .i64 0),(3,.bool (noneB n epoch kind site client seq name size hn))]->Below w w w'->Q .normal a' w') :
 (part [1,0] (codeOf chkF)).wp prog Q a w:=by
 obtain⟨c3,c4,c5,c6,c7,c8,c9,c10,c11⟩:=hb.cs 3 9
 have HQ:=J hQ
 clear hQ hb
 refine gg hfr fun t=>?_
 go_wp2_with fail
 ·refine (blank_any _ _ _ _ _ _ _ _ _ _ _ _).mono ?_
  exact Y108
 all_goals
  exact Y144
theorem chk2 (hfr:Fr 250 a [(1,b),(2,.int .i64 0),(3,p)]) (hb:Blk w b 47 (cmdCells ck ce cs n epoch kind site client seq name size hA hn hc after since pA pn pc tag)) (hQ:∀ a' w',Fr 250 a' [(1,b),(2,.int .i64 0),(3,p),(4,.bool (shortB after since pn))]->Below w w w'->Q .normal a' w') :
 (part [1,1,0] (codeOf chkF)).wp prog Q a w:=by
 obtain⟨c12,c13,c14⟩:=hb.cs 12 3
 have HQ:=J hQ
 clear hQ hb
 refine gg hfr fun t=>?_
 go_wp2_with fail
 all_goals
  refine HQ.out _ _ ⟨rfl,rfl,rfl,rfl,rfl,?_,trivial⟩ (Below.refl _ _)
  refine congrArg Value.bool ?_
  rw [Bool.eq_iff_iff]
  simp [shortB]
  try omega
theorem chk3 (hfr:Fr 250 a [(1,b),(2,.int .i64 0),(3,p),(4,q)]) (hb:Blk w b 47 (cmdCells ck ce cs n epoch kind site client seq name size hA hn hc after since pA pn pc tag)) (hQ:∀ a' w',Fr 250 a' [(1,b),(2,.int .i64 0),(3,p),(4,q),(5,.bool (nobodyB ce cs))]->Below w w w'->Q .normal a' w') :
 (part [1,1,1,0] (codeOf chkF)).wp prog Q a w:=by
 obtain⟨c1,c2⟩:=hb.cs 1 2
 have HQ:=J hQ
 clear hQ hb
 refine gg hfr fun t=>?_
 go_wp2_with fail
 all_goals
  refine HQ.out _ _ ⟨rfl,rfl,rfl,rfl,rfl,rfl,?_,trivial⟩ (Below.refl _ _)
  refine congrArg Value.bool ?_
  rw [Bool.eq_iff_iff]
  simp [nobodyB]
  try omega
end
theorem chkK0 (r:Bool) (hr:r=(p&&(q&&(s&&(decide (tag=0)))))) (a:Act) (hfr:Fr 250 a [(1,b),(2,.int .i64 0),(3,p),(4,q),(5,s)]) (hb:Blk w b 47 (cmdCells 0 ce cs n epoch kind site client seq name size hA hn hc after since pA pn pc tag)) (hw:Below W W w) :
 (part [1,1,1,1] (codeOf chkF)).wp prog (bodyPost prog chkF fun x w'=>x=.returned (.int .i64 (errB r))/\Below W W w') a w:=by
 have c0:=hb.c1 0
 have c15:=hb.c1 15
 obtain⟨HW,HE⟩:=J2 hw hr
 clear hb hw hr
 cases p
 ·obtain rfl:r=false:=HE.out
  exact Y18
 cases q
 ·obtain rfl:r=false:=HE.out
  exact Y18
 cases s
 ·obtain rfl:r=false:=HE.out
  exact Y18
 have he:r=(decide (tag=0)):=HE.out
 clear HE
 by_cases ht:tag=0
 rotate_left
 ·obtain rfl:r=false:=by rw [he];simp [ht]
  have et:(tag==0)=false:=beq_eq_false_iff_ne.2 ht
  clear ht he
  exact Y18
 obtain rfl:r=true:=by rw [he];simp [ht]
 have et:(tag==0)=true:=by rw [ht];rfl
 clear ht he
 refine gg hfr fun t=>?_
 go_wp2_with fail
 go_ret
 exact⟨rfl,HW.out⟩
theorem chkK2 (r:Bool) (hr:r=(p&&(q&&(s&&(tagB tag))))) (a:Act) (hfr:Fr 250 a [(1,b),(2,.int .i64 0),(3,p),(4,q),(5,s)]) (hb:Blk w b 47 (cmdCells 2 ce cs n epoch kind site client seq name size hA hn hc after since pA pn pc tag)) (hw:Below W W w) :
 (part [1,1,1,1] (codeOf chkF)).wp prog (bodyPost prog chkF fun x w'=>x=.returned (.int .i64 (errB r))/\Below W W w') a w:=by
 have c0:=hb.c1 0
 have c15:=hb.c1 15
 obtain⟨HW,HE⟩:=J2 hw hr
 clear hb hw hr
 cases p
 ·obtain rfl:r=false:=HE.out
  exact Y18
 cases q
 ·obtain rfl:r=false:=HE.out
  exact Y18
 cases s
 ·obtain rfl:r=false:=HE.out
  exact Y18
 have he:r=(tagB tag):=HE.out
 clear HE
 subst he
 cases hv:tagB tag
 all_goals
  refine gg hfr fun t=>?_
  go_wp2_with fail
  refine (tagged_any _ _).mono ?_
  exact Y113
theorem chkK4 (r:Bool) (hr:r=(p&&(q&&(decide (tag=0)&&reignB ce cs)))) (a:Act) (hfr:Fr 250 a [(1,b),(2,.int .i64 0),(3,p),(4,q),(5,s)]) (hb:Blk w b 47 (cmdCells 4 ce cs n epoch kind site client seq name size hA hn hc after since pA pn pc tag)) (hw:Below W W w) :
 (part [1,1,1,1] (codeOf chkF)).wp prog (bodyPost prog chkF fun x w'=>x=.returned (.int .i64 (errB r))/\Below W W w') a w:=by
 obtain⟨c0,c1,c2⟩:=hb.cs 0 3
 have c15:=hb.c1 15
 obtain⟨HW,HE⟩:=J2 hw hr
 clear hb hw hr
 cases p
 ·obtain rfl:r=false:=HE.out
  exact Y18
 cases q
 ·obtain rfl:r=false:=HE.out
  exact Y18
 have he:r=(decide (tag=0)&&reignB ce cs):=HE.out
 clear HE
 by_cases ht:tag=0
 rotate_left
 ·obtain rfl:r=false:=by rw [he];simp [ht]
  have et:(tag==0)=false:=beq_eq_false_iff_ne.2 ht
  clear ht he
  exact Y18
 have he2:r=reignB ce cs:=by rw [he];simp [ht]
 have et:(tag==0)=true:=by rw [ht];rfl
 clear ht he
 subst he2
 cases hv:reignB ce cs
 all_goals
  exact Y233
end
end
@[reducible] noncomputable def ropF:Func:=Try.f92
theorem rzero_any (n epoch kind site client seq:Int) (name:ByteArray) (size:Int) (A:O) (hn hc:Nat) (w:World):Calls prog 91 #[.agg (opCells n epoch kind site client seq name size A hn hc)] w fun x w'=>x=.returned (.bool (blankB client seq name size hn))/\Below w w w':=by
 have hb:∀ o,Below w w (w.alloc o):=fun o=>(Below.refl _ _).alloc (Nat.le_refl _) _
 have HB:=J hb
 clear hb
 by_cases hl:name.toList=[]
 ·have HZ:=J (toList_nil.1 hl)
  go_enter func91,ntmps91
  go_wp2_with fail
  all_goals
   refine bodyPost_ret (results_tmp rfl _ _ _) rfl ?_
   refine⟨congrArg (fun b=>Ending.returned (Value.bool b)) ?_,HB.out _⟩
   have hz:=HZ.out
   unfold blankB bareB
   rw [hz,Bool.eq_iff_iff]
   simp
   try omega
 ·have HZ:=J (fun h=>hl (toList_nil.2 h))
  go_enter func91,ntmps91
  go_wp2_with fail
  all_goals
   refine bodyPost_ret (results_tmp rfl _ _ _) rfl ?_
   refine⟨congrArg (fun b=>Ending.returned (Value.bool b)) ?_,HB.out _⟩
   have hz:=HZ.out
   unfold blankB bareB
   rw [decide_eq_false hz,Bool.eq_iff_iff]
   simp
   try omega
section
variable {n epoch kind site client seq:Int} {name:ByteArray} {size:Int} {A:O} {hn hc:Nat}
section
variable {hs:List ByteArray} {b:Nat} {S:Nat->Prop} {W w:World}
section
variable (Q:Z) (a:Act) (hfr:Fr 92 a [(1,b),(2,false)]) (hb:Blk w b 45 (opCells n epoch kind site client seq name size A hn hc))
include Q a hfr hb
theorem rop1 (hQ:∀ a',Fr 92 a' [(1,b),(2,false),(30,(!headB n epoch site))]->Q .normal a' w) :
 (part [1,0,0] (codeOf ropF)).wp prog Q a w:=by
 obtain⟨c0,c1⟩:=hb.cs 0 2
 have c3:=hb.c1 3
 have HQ:=J hQ
 clear hQ hb
 refine gg hfr fun t=>?_
 go_wp2_with fail
 all_goals
  refine HQ.out _ ⟨rfl,rfl,rfl,rfl,?_,trivial⟩
  refine congrArg Value.bool ?_
  rw [Bool.eq_iff_iff]
  simp [headB,reignB]
  try omega
theorem rop5 (hQ:∀ a',Fr 92 a' [(1,b),(2,false),(65,(!ownB client seq name))]->Q .normal a' w) :
 (part [1,1,1,0,0] (codeOf ropF)).wp prog Q a w:=by
 obtain⟨c4,c5,c6⟩:=hb.cs 4 3
 have HQ:=J hQ
 clear hQ hb
 refine gg hfr fun t=>?_
 go_wp2_with fail
 all_goals
  refine HQ.out _ ⟨rfl,rfl,rfl,rfl,?_,trivial⟩
  refine congrArg Value.bool ?_
  unfold ownB
  generalize name.size=z at *
  rw [Bool.eq_iff_iff]
  simp
  try omega
end
section
variable (a:Act) (v:Value) (hw:Below W W w) (hfr:Fr 92 a [(1,v)]) (Q:Z) (hQ:∀ a' w',bodyPost prog ropF (fun x w'=>x=.returned (.bool false)/\Below W W w') .ret a' w'->Q .ret a' w')
include a v hw hfr Q hQ
theorem rop2:(part [1,0,1,0] (codeOf ropF)).wp prog Q a w:=by
 exact Y37
theorem rop6:(part [1,1,1,0,1,0] (codeOf ropF)).wp prog Q a w:=by
 exact Y37
end
theorem rop7 (r:Bool) (_k3:¬ kind=3) (hr:r=(if kind=1 then sheetB size hs else if kind=2 then bareB size hs.length else false)) (a:Act) (hfr:Fr 92 a [(1,b)]) (hb:Blk w b 45 (opCells n epoch kind site client seq name size A hn hc)) (h:StrIs w S A hn hc hs) (hz:hn<=140737488351232) (hw:Below W W w) :
 (part [1,1,1,1] (codeOf ropF)).wp prog (bodyPost prog ropF fun x w'=>x=.returned (.bool r)/\Below W W w') a w:=by
 have hlen:=h.len
 obtain⟨HS,HW,HL,HK⟩:=J4 h hw hlen hb
 have c2:=hb.c1 2
 obtain⟨c7,c8⟩:=hb.cs 7 2
 by_cases k1:kind=1
 ·have e:r=sheetB size hs:=by rw [hr];simp [k1]
  have e1:(kind==1)=true:=by simp [k1]
  have hsh:=rsheet_any size w HS.out hz
  rw [<-e] at hsh
  have HC:=J hsh
  have e2:(kind==2)=false:=by simp [k1]
  clear hb h hw hlen hr k1 _k3 e hsh
  cases r
  all_goals
   refine gg hfr fun t=>?_
   go_wp2_with fail
   refine HC.out.mono ?_
   rintro e w1 ⟨rfl,hb1⟩
   have HW1:=J (HW.out.trans (hb1.mono HW.out.size))
   have k2:=(HK.out.below hb1 HK.out.lt).cell 2
   simp at k2
   clear hb1
   exact Y43
 by_cases k2:kind=2
 ·have e:r=bareB size hn:=by rw [hr];simp [k2,HL.out]
  have e1:(kind==1)=false:=by simp [k1]
  have e2:(kind==2)=true:=by simp [k2]
  have HE:=J e
  clear hb h hw hlen hr k1 k2 _k3 e
  refine gg hfr fun t=>?_
  go_wp2_with fail
  all_goals
   refine bodyPost_ret (results_tmp rfl _ _ _) rfl ?_
   refine⟨congrArg (fun b=>Ending.returned (Value.bool b)) ?_,HW.out⟩
   rw [HE.out,Bool.eq_iff_iff]
   simp [bareB]
   try omega
 have e:r=false:=by rw [hr];simp [k1,k2]
 have e1:(kind==1)=false:=by simp [k1]
 have e2:(kind==2)=false:=by simp [k2]
 clear hb h hlen hr k1 k2 _k3 hw
 subst e
 refine gg hfr fun t=>?_
 go_wp2_with fail
 go_ret
 exact⟨rfl,HW.out⟩
theorem rop3 (Q:Z) (a:Act) (hfr:Fr 92 a [(1,b),(2,false)]) (hb:Blk w b 45 (opCells n epoch kind site client seq name size A hn hc)) (hQ:∀ a',Fr 92 a' [(1,b),(2,false),(33,(decide (kind=3)))]->Q .normal a' w) :
 (part [1,1,0,0] (codeOf ropF)).wp prog Q a w:=by
 have c2:=hb.c1 2
 have HQ:=J hQ
 have HV:=J (show (kind==3)=decide (kind=3) from rfl)
 clear hQ hb
 refine gg hfr fun t=>?_
 go_wp2_with fail
 exact HQ.out _ ⟨rfl,rfl,rfl,rfl,congrArg Value.bool HV.out,trivial⟩
theorem rop4 (r:Bool) (hr:r=blankB client seq name size hn) (a:Act) (hfr:Fr 92 a [(1,b)]) (hb:Blk w b 45 (opCells n epoch kind site client seq name size A hn hc)) (hw:Below W W w) (Q:Z) (hQ:∀ a' w',bodyPost prog ropF (fun x w'=>x=.returned (.bool r)/\Below W W w') .ret a' w'->Q .ret a' w') :
 (part [1,1,0,1,0] (codeOf ropF)).wp prog Q a w:=by
 have hsh:=rzero_any n epoch kind site client seq name size A hn hc w
 rw [<-hr] at hsh
 obtain⟨HC,HW⟩:=J2 hsh hw
 obtain⟨c0,c1,c2,c3,c4,c5,c6,c7,c8⟩:=hb.cs 0 9
 have HQ:=J hQ
 clear hsh hw hb hr hQ
 refine gg hfr fun t=>?_
 go_wp2_with fail
 refine HC.out.mono ?_
 rintro e w1 ⟨rfl,hb1⟩
 have HW1:=J (HW.out.trans (hb1.mono HW.out.size))
 clear hb1
 go_wp2_with fail
 exact HQ.out _ _ (bodyPost_ret (results_tmp rfl _ _ _) rfl ⟨rfl,HW1.out⟩)
end
end
theorem rightOp_any {A:O} {n c:Nat} (o:OpC) {S:Nat->Prop} (w:World) (h:StrIs w S A n c o.hs) (hn:n<=140737488351232) :
 Calls prog 92 #[.agg (opCells o.n o.epoch o.kind o.site o.client o.seq o.name o.size A n c)] w fun x w'=>x=.returned (.bool (opB o))/\Below w w w':=by
 have hb0:Below w w (w.alloc (.cells (opCells o.n o.epoch o.kind o.site o.client o.seq o.name o.size A n c) 45)):=(Below.refl _ _).alloc (Nat.le_refl _) _
 have hbk:=Blk.new w 45 (opCells o.n o.epoch o.kind o.site o.client o.seq o.name o.size A n c)
 obtain⟨HB,HK⟩:=J2 hb0 hbk
 have HS:=J (h.below hb0)
 have HL:=J h.len
 obtain⟨r,hr⟩:∃ r,r=opB o:=⟨_,rfl⟩
 rw [<-hr]
 have HR:=J hr
 clear h hb0 hbk hr
 go_enter func92,ntmps92
 conv=>arg 2;arg 2;change part [1] (codeOf ropF)
 go_wp2_with fail
 refine w2 ?_
 refine w2 ?_
 refine rop1 _ _ ff HK.out fun a1 hf1=>?_
 show (part [1,0,1] (codeOf ropF)).wp prog _ a1 _
 refine wp_if (x:=part [1,0,1,0] (codeOf ropF)) (y:=part [1,0,1,1] (codeOf ropF)) (o:=.tmp 30) kr (eval_at hf1.2.2.2.2.1 rfl) (fun ht=>?_) fun ht=>?_
 ·have e:r=false:=by rw [HR.out];unfold opB;rw [show headB o.n o.epoch o.site=false by simpa using ht];rfl
  subst e
  exact rop2 a1 _ HB.out ⟨hf1.1,hf1.2.1,hf1.2.2.1,trivial⟩ _ fun _ _ h=>h
 have hh:headB o.n o.epoch o.site=true:=by simpa using ht
 refine wp_nop kr ?_
 show (part [1,1] (codeOf ropF)).wp prog _ a1 _
 refine w2 ?_
 refine w2 ?_
 refine rop3 _ a1 ⟨hf1.1,hf1.2.1,hf1.2.2.1,hf1.2.2.2.1,trivial⟩ HK.out fun a2 hf2=>?_
 show (part [1,1,0,1] (codeOf ropF)).wp prog _ a2 _
 refine wp_if (x:=part [1,1,0,1,0] (codeOf ropF)) (y:=part [1,1,0,1,1] (codeOf ropF)) (o:=.tmp 33) kr (eval_at hf2.2.2.2.2.1 rfl) (fun ht=>?_) fun ht=>?_
 ·have k3:o.kind=3:=of_decide_eq_true ht
  exact rop4 r (by rw [HR.out];unfold opB;rw [hh];simp [kindB,k3,HL.out]) a2 ⟨hf2.1,hf2.2.1,hf2.2.2.1,trivial⟩ HK.out HB.out _ fun _ _ h=>h
 have k3:¬ o.kind=3:=of_decide_eq_false ht
 refine wp_nop kr ?_
 show (part [1,1,1] (codeOf ropF)).wp prog _ a2 _
 refine w2 ?_
 refine w2 ?_
 refine rop5 _ a2 ⟨hf2.1,hf2.2.1,hf2.2.2.1,hf2.2.2.2.1,trivial⟩ HK.out fun a3 hf3=>?_
 show (part [1,1,1,0,1] (codeOf ropF)).wp prog _ a3 _
 refine wp_if (x:=part [1,1,1,0,1,0] (codeOf ropF)) (y:=part [1,1,1,0,1,1] (codeOf ropF)) (o:=.tmp 65) kr (eval_at hf3.2.2.2.2.1 rfl) (fun ht=>?_) fun ht=>?_
 ·have e:r=false:=by rw [HR.out];unfold opB kindB;rw [show ownB o.client o.seq o.name=false by simpa using ht];simp [k3]
  subst e
  exact rop6 a3 _ HB.out ⟨hf3.1,hf3.2.1,hf3.2.2.1,trivial⟩ _ fun _ _ h=>h
 have ho:ownB o.client o.seq o.name=true:=by simpa using ht
 refine wp_nop kr ?_
 show (part [1,1,1,1] (codeOf ropF)).wp prog _ a3 _
 exact rop7 r k3 (by rw [HR.out];unfold opB kindB;rw [hh,ho];simp [k3]) a3 ⟨hf3.1,hf3.2.1,hf3.2.2.1,trivial⟩ HK.out HS.out hn HB.out
theorem eta109 (t:Array Value) (h:t.size=109):t=#[at_ t 0,at_ t 1,at_ t 2,at_ t 3,at_ t 4,at_ t 5,at_ t 6,at_ t 7,at_ t 8,at_ t 9,at_ t 10,at_ t 11,at_ t 12,at_ t 13,at_ t 14,at_ t 15,at_ t 16,at_ t 17,at_ t 18,at_ t 19,at_ t 20,at_ t 21,at_ t 22,at_ t 23,at_ t 24,at_ t 25,at_ t 26,at_ t 27,at_ t 28,at_ t 29,at_ t 30,at_ t 31,at_ t 32,at_ t 33,at_ t 34,at_ t 35,at_ t 36,at_ t 37,at_ t 38,at_ t 39,at_ t 40,at_ t 41,at_ t 42,at_ t 43,at_ t 44,at_ t 45,at_ t 46,at_ t 47,at_ t 48,at_ t 49,at_ t 50,at_ t 51,at_ t 52,at_ t 53,at_ t 54,at_ t 55,at_ t 56,at_ t 57,at_ t 58,at_ t 59,at_ t 60,at_ t 61,at_ t 62,at_ t 63,at_ t 64,at_ t 65,at_ t 66,at_ t 67,at_ t 68,at_ t 69,at_ t 70,at_ t 71,at_ t 72,at_ t 73,at_ t 74,at_ t 75,at_ t 76,at_ t 77,at_ t 78,at_ t 79,at_ t 80,at_ t 81,at_ t 82,at_ t 83,at_ t 84,at_ t 85,at_ t 86,at_ t 87,at_ t 88,at_ t 89,at_ t 90,at_ t 91,at_ t 92,at_ t 93,at_ t 94,at_ t 95,at_ t 96,at_ t 97,at_ t 98,at_ t 99,at_ t 100,at_ t 101,at_ t 102,at_ t 103,at_ t 104,at_ t 105,at_ t 106,at_ t 107,at_ t 108]:=(eta_ t h).trans kr
@[reducible] noncomputable def rrowF:Func:=Try.f93
theorem rrow1 {w:World} {b:Nat} {N E:Int} {v:Value} (Q:Z) (a:Act) (hfr:Fr 109 a [(1,v),(2,b)]) (hb:Blk w b 26 #[N,E])
 (hQ:∀ a',Fr 109 a' [(1,v),(2,b),(34,(!rowHead N E))]->Q .normal a' w) :
 (part [1,0,0] (codeOf rrowF)).wp prog Q a w:=by
 exact Y60
def AheadIs (N E:Int) (os:List OpC) (k:Nat) (N' E' st:Int):Prop:=
 N'=N+k/\(k=0->E'=E/\st = -1)/\(0<k->∃ p,os[k-1]? = some p/\E'=p.epoch/\st=p.site/\0<=p.site)
section
variable {E N:Int} {os:List OpC} {b c n:Nat} {S:Nat->Prop} {A:O} {W w:World}
theorem rrow2 (r:Bool) (hr:r=rowFrom N E (-1) os) (hN:0<=N/\N<=80) (a:Act) (hfr:Fr 109 a [(1,.slice A n c),(2,b)]) (hb:Blk w b 26 #[N,E]) (ho:OpsIs w S A n c os) (hn:n<=4294967296) (hok:∀ o∈os,o.Ok) (hw:Below W W w) :
 (part [1,1] (codeOf rrowF)).wp prog (bodyPost prog rrowF fun x w'=>x=.returned (.bool r)/\Below W W w') a w:=by
 have hlen:=ho.len
 obtain⟨HO,HK,HW,HL,HOK,HR⟩:=J6 ho hb hw hlen hok hr
 clear hb ho hw hlen hok hr
 refine gg hfr fun t=>?_
 go_wp2_with fail
 go_loopw [5] (fun i wr=>∃ (k:Nat) (N' E' st:Int),k<=n/\i=.int .i64 k/\AheadIs N E os k N' E' st/\N'<=80/\r=rowFrom N' E' st (os.drop k)/\Below w w wr) (fun i _=>n-(intOf i).toNat)
 case atStart=>exact⟨0,N,E,-1,by omega,rfl,⟨by omega,fun _=>⟨rfl,rfl⟩,fun h=>absurd h (by omega)⟩,hN.2,HR.out,Below.refl _ _⟩
 case round=>
  obtain⟨k,N',E',st,hk,rfl,hah,hN2,hr,hbw⟩:=hrel
  have hkb:=HK.out.below hbw HK.out.lt
  have ho:=HO.out.below hbw
  obtain⟨HKW,HOW,HBW⟩:=J3 hkb ho hbw
  rcases Nat.lt_or_ge k n with hk1|hk1
  ·obtain⟨ad,o,hA,hn1,hc1,rfl,hab,hck,hop,hss⟩:=ho.at_ hk1
   rw [drop_at hck] at hr
   have HR:=J hr
   have hok:=HOK.out o (List.mem_of_getElem? hck)
   have hz:hn1<=140737488351232:=by have:=hok.hs;have:=hss.len;omega
   have hb0:Below wr wr (wr.alloc (.cells (opCells o.n o.epoch o.kind o.site o.client o.seq o.name o.size hA hn1 hc1) 45)):=(Below.refl _ _).alloc (Nat.le_refl _) _
   have hce:=rightOp_any o _ (hss.below hb0) hz
   obtain⟨k0,k1,k2,k3,k4,k5,k6,k7,k8⟩:=hop
   simp only [OpC.at_] at k0 k1 k2 k3 k4 k5 k6 k7 k8
   have b1:(0:Int)<=(k:Int):=by omega
   have b2:(k:Int)<(n:Int):=by omega
   obtain⟨v,hv⟩:∃ v,v=opB o:=⟨_,rfl⟩
   rw [<-hv] at hce
   obtain⟨HC,HV⟩:=J2 hce hv
   have HK0:=J (hkb.below hb0 hkb.lt)
   have HP0:=J (Blk.new wr 45 (opCells o.n o.epoch o.kind o.site o.client o.seq o.name o.size hA hn1 hc1))
   have HW0:=J (hbw.trans (hb0.mono hbw.size))
   have HO0:=J (ho.below hb0)
   have hck':=J hck
   have HH:=J hah
   have dk:decide ((k:Int)<(n:Int))=true:=decide_eq_true b2
   have w9:wrap64 (N+1)=N+1:=wrap_id (by omega)
   obtain⟨c0,c1⟩:=(HK0.out).cs 0 2
   clear hce hv hb0 hkb hbw ho hss hr hok hck hab
   rcases Nat.eq_zero_or_pos k with hk0|hk0
   ·obtain⟨rfl,rfl⟩:=hah.2.1 hk0
    have xi:decide ((0:Int)<(k:Int))=false:=decide_eq_false (by omega)
    have xj:decide (0<k)=false:=decide_eq_false (by omega)
    clear hk0 hah
    have w10:wrap64 (N+1+(k:Int))=N+1+(k:Int):=wrap_id (by omega)
    go_wp2_with fail
    refine HC.out.mono ?_
    rintro e w1 ⟨rfl,hb1⟩
    dsimp only
    have hk1':=HK0.out.below hb1 HK0.out.lt
    have hp1:=HP0.out.below hb1 HP0.out.lt
    have HW1:=J (HW0.out.trans (hb1.mono HW0.out.size))
    obtain⟨d0,d1⟩:=hk1'.cs 0 2
    obtain⟨p0,p1,p2,p3⟩:=hp1.cs 0 4
    clear hb1 hk1' hp1 k0 k1 k2 k3 k4 k5 k6 k7 k8
    have HF:=J (HW.out.trans (HW1.out.mono HW.out.size))
    cases hob:opB o
    ·have e:=HV.out
     exact Y227
    have e:=HV.out
    rw [hob] at e
    subst e
    have hon:=opB_n hob
    by_cases hNn:o.n=N'+1
    ·have xn:(o.n != N+1+(k:Int))=false:=by rw [hNn,HH.out.1];simp;omega
     have HN:=J hNn
     by_cases hk3:o.kind=3
     ·have xk:(o.kind==3)=true:=beq_iff_eq.2 hk3
      exact Y12
     ·have xk:(o.kind==3)=false:=beq_eq_false_iff_ne.2 hk3
      have xk':(o.kind != 3)=true:=bne_iff_ne.2 hk3
      have HK3:=J hk3
      clear hk3 hNn
      by_cases hE:o.epoch=E'
      ·have x1:(o.epoch==E')=true:=beq_iff_eq.2 hE
       have x2:decide (o.epoch<E')=false:=decide_eq_false (by omega)
       have x3:decide (E'<o.epoch)=false:=decide_eq_false (by omega)
       have HE:=J hE
       clear hE
       have hr2:r=rowFrom o.n o.epoch o.site (os.drop (k+1)):=by rw [HR.out];simp [rowFrom,stepB,hob,HN.out,HK3.out,HE.out]
       exact Y214
      ·have hr2:r=false:=by rw [HR.out];simp [rowFrom,stepB,HK3.out,hE]
       exact Y30
    ·have xn:(o.n != N+1+(k:Int))=true:=bne_iff_ne.2 (by rw [show N+1+(k:Int)=N'+1 by rw [HH.out.1];omega];exact hNn)
     exact Y235
   ·obtain⟨p,hp,hE',hst',hps⟩:=hah.2.2 hk0
    have xi:decide ((0:Int)<(k:Int))=true:=decide_eq_true (by omega)
    have xj:decide (0<k)=true:=decide_eq_true hk0
    have w10:wrap64 (N+1+(k:Int))=N+1+(k:Int):=wrap_id (by omega)
    have w11:wrap64 ((k:Int)-1)=(k:Int)-1:=wrap_id (by omega)
    have b3:(0:Int)<=(k:Int)-1:=by omega
    have b4:(k:Int)-1<(n:Int):=by omega
    have HST:=J (show ¬ st<0 by omega)
    obtain⟨ad2,p2,pA,pn,pc,e2,qab,hck2,hop2,-⟩:=(HO0.out).at_ (k:=k-1) (by omega)
    injection e2 with e2
    subst e2
    obtain rfl:p2=p:=by rw [hck2] at hp;injection hp
    obtain⟨HQ0,Q0⟩:=J2 hop2 qab
    obtain⟨q0,q1,q2,q3,q4,q5,q6,q7,q8⟩:=hop2
    simp only [OpC.at_] at q0 q1 q2 q3 q4 q5 q6 q7 q8
    rw [<-hE'] at q1
    have HST':=J hst'
    have t10:((k:Int)-1).toNat=k-1:=by omega
    clear q0 q2 q3 q4 q5 q6 q7 q8 hck2 hp qab hps hE' hst' hah
    go_wp2_with fail
    refine HC.out.mono ?_
    rintro e w1 ⟨rfl,hb1⟩
    dsimp only
    have hk1':=HK0.out.below hb1 HK0.out.lt
    have hp1:=HP0.out.below hb1 HP0.out.lt
    have HW1:=J (HW0.out.trans (hb1.mono HW0.out.size))
    obtain⟨d0,d1⟩:=hk1'.cs 0 2
    obtain⟨p0,p1,p2,p3⟩:=hp1.cs 0 4
    obtain⟨z0,z1,z2,z3,z4,z5,z6,z7,z8⟩:=(HQ0.out).below hb1 Q0.out
    simp only [OpC.at_] at z3
    rw [<-HST'.out] at z3
    clear z0 z1 z2 z4 z5 z6 z7 z8
    clear hb1 hk1' hp1 k0 k1 k2 k3 k4 k5 k6 k7 k8
    have HF:=J (HW.out.trans (HW1.out.mono HW.out.size))
    cases hob:opB o
    ·have e:=HV.out
     exact Y227
    have e:=HV.out
    rw [hob] at e
    subst e
    have hon:=opB_n hob
    by_cases hNn:o.n=N'+1
    ·have xn:(o.n != N+1+(k:Int))=false:=by rw [hNn,HH.out.1];simp;omega
     have HN:=J hNn
     by_cases hk3:o.kind=3
     ·have xk:(o.kind==3)=true:=beq_iff_eq.2 hk3
      exact Y12
     ·have xk:(o.kind==3)=false:=beq_eq_false_iff_ne.2 hk3
      have xk':(o.kind != 3)=true:=bne_iff_ne.2 hk3
      have HK3:=J hk3
      clear hk3 hNn
      by_cases hE:o.epoch=E'
      ·have x1:(o.epoch==E')=true:=beq_iff_eq.2 hE
       have x2:decide (o.epoch<E')=false:=decide_eq_false (by omega)
       have x3:decide (E'<o.epoch)=false:=decide_eq_false (by omega)
       have HE:=J hE
       clear hE
       by_cases hs:o.site=st
       ·have x4:(o.site != st)=false:=by rw [hs];simp
        have HS:=J hs
        clear hs
        have hr2:r=rowFrom o.n o.epoch o.site (os.drop (k+1)):=by rw [HR.out];simp [rowFrom,stepB,hob,HN.out,HK3.out,HE.out,HS.out]
        exact Y214
       ·have x4:(o.site != st)=true:=bne_iff_ne.2 hs
        have hr2:r=false:=by rw [HR.out];simp [rowFrom,stepB,HK3.out,HE.out,hs];intro _ _ h3;have h4:=HST.out;omega
        subst hr2
        go_wp2_with fail
        go_quiet (fail)
        go_wp2_with fail
        go_ret
        exact⟨rfl,below_drewN HF.out _⟩
      ·have hr2:r=false:=by rw [HR.out];simp [rowFrom,stepB,HK3.out,hE]
       exact Y30
    ·have xn:(o.n != N+1+(k:Int))=true:=bne_iff_ne.2 (by rw [show N+1+(k:Int)=N'+1 by rw [HH.out.1];omega];exact hNn)
     exact Y235
  ·obtain rfl:n=k:=by omega
   have hr2:r=true:=by rw [hr,List.drop_eq_nil_of_le (by rw [HL.out];exact Nat.le_refl _)];rfl
   subst hr2
   have HF:=J (HW.out.trans (hbw.mono HW.out.size))
   have dk:decide ((n:Int)<(n:Int))=false:=decide_eq_false (by omega)
   exact Y77
theorem rrow0r (a:Act) (v:Value) (hw:Below W W w) (hfr:Fr 109 a [(1,v)]) (Q:Z) (hQ:∀ a' w',bodyPost prog rrowF (fun x w'=>x=.returned (.bool false)/\Below W W w') .ret a' w'->Q .ret a' w'):(part [1,0,1,0] (codeOf rrowF)).wp prog Q a w:=by
 exact Y37
theorem rrow_any (N E:Int) (w:World) (h:OpsIs w S A n c os) (hn:n<=4294967296) (hok:∀ o∈os,o.Ok) :
 Calls prog 93 #[.agg #[N,E],.slice A n c] w fun x w'=>x=.returned (.bool (rowB N E os))/\Below w w w':=by
 have hb0:Below w w (w.alloc (.cells #[N,E] 26)):=(Below.refl _ _).alloc (Nat.le_refl _) _
 have hbk:=Blk.new w 26 #[N,E]
 obtain⟨HB,HK⟩:=J2 hb0 hbk
 have HO:=J ((h.mono (S':=fun b=>S b/\b<w) fun b hb hs=>⟨hs,hb⟩).below hb0)
 obtain⟨r,hr⟩:∃ r,r=rowB N E os:=⟨_,rfl⟩
 rw [<-hr]
 have HR:=J hr
 clear h hb0 hbk hr
 go_enter func93,ntmps93
 conv=>arg 2;arg 2;change part [1] (codeOf rrowF)
 go_wp2_with fail
 refine w2 ?_
 refine w2 ?_
 refine rrow1 _ _ ff HK.out fun a1 hf1=>?_
 show (part [1,0,1] (codeOf rrowF)).wp prog _ a1 _
 refine wp_if (x:=part [1,0,1,0] (codeOf rrowF)) (y:=part [1,0,1,1] (codeOf rrowF)) (o:=.tmp 34) kr (eval_at hf1.2.2.2.2.1 rfl) (fun ht=>?_) fun ht=>?_
 ·have e:r=false:=by rw [HR.out];unfold rowB;rw [show rowHead N E=false by simpa using ht];rfl
  subst e
  exact rrow0r a1 _ HB.out ⟨hf1.1,hf1.2.1,hf1.2.2.1,trivial⟩ _ fun _ _ h=>h
 have hh:rowHead N E=true:=by simpa using ht
 refine wp_nop kr ?_
 show (part [1,1] (codeOf rrowF)).wp prog _ a1 _
 refine rrow2 r (by rw [HR.out];unfold rowB;rw [hh];rfl) ?_ a1 ⟨hf1.1,hf1.2.1,hf1.2.2.1,hf1.2.2.2.1,trivial⟩ HK.out HO.out hn hok HB.out
 unfold rowHead at hh
 simp only [Bool.and_eq_true,decide_eq_true_eq] at hh
 exact⟨hh.1,hh.2.1⟩
end
@[reducible] noncomputable def rgtF:Func:=Try.f47
section
variable {ck ce cs n epoch kind site client seq:Int} {name:ByteArray} {size:Int} {hA:O} {hn hc:Nat} {after since:Int} {pA:O} {pn pc:Nat} {tag:Int}
section
variable {p q s u:Bool} {os:List OpC} {b:Nat} {S:Nat->Prop} {W w:World}
section
variable (Q:Z) (a:Act)
include Q a
theorem rgt1 (hfr:Fr 272 a [(1,b),(2,false)]) (hb:Blk w b 47 (cmdCells ck ce cs n epoch kind site client seq name size hA hn hc after since pA pn pc tag)) (hQ:∀ a' w',Fr 272 a' [(1,b),(2,false),(3,.bool (noneB n epoch kind site client seq name size hn))]->Below w w w'->Q .normal a' w') :
 (part [1,0] (codeOf rgtF)).wp prog Q a w:=by
 obtain⟨c3,c4,c5,c6,c7,c8,c9,c10,c11⟩:=hb.cs 3 9
 have HQ:=J hQ
 clear hQ hb
 refine gg hfr fun t=>?_
 go_wp2_with fail
 ·refine (rzero_any _ _ _ _ _ _ _ _ _ _ _ _).mono ?_
  exact Y108
 all_goals
  exact Y144
theorem rgt2 (hfr:Fr 272 a [(1,b),(2,false),(3,p)]) (hb:Blk w b 47 (cmdCells ck ce cs n epoch kind site client seq name size hA hn hc after since pA pn pc tag)) (hQ:∀ a' w',Fr 272 a' [(1,b),(2,false),(3,p),(4,.bool (reignB ce cs))]->Below w w w'->Q .normal a' w') :
 (part [1,1,0] (codeOf rgtF)).wp prog Q a w:=by
 obtain⟨c1,c2⟩:=hb.cs 1 2
 have HQ:=J hQ
 clear hQ hb
 refine gg hfr fun t=>?_
 go_wp2_with fail
 all_goals
  refine HQ.out _ _ ⟨rfl,rfl,rfl,rfl,rfl,?_,trivial⟩ (Below.refl _ _)
  refine congrArg Value.bool ?_
  rw [Bool.eq_iff_iff]
  simp [reignB]
  try omega
theorem rgt3 (hfr:Fr 272 a [(1,b),(2,false),(3,p),(4,q)]) (hb:Blk w b 47 (cmdCells ck ce cs n epoch kind site client seq name size hA hn hc after since pA pn pc tag)) (hQ:∀ a' w',Fr 272 a' [(1,b),(2,false),(3,p),(4,q),(5,.bool (p&&shortB after since pn))]->Below w w w'->Q .normal a' w') :
 (part [1,1,1,0] (codeOf rgtF)).wp prog Q a w:=by
 obtain⟨c12,c13,c14⟩:=hb.cs 12 3
 have HQ:=J hQ
 clear hQ hb
 refine gg hfr fun t=>?_
 cases p
 all_goals
  go_wp2_with fail
  all_goals
   refine HQ.out _ _ ⟨rfl,rfl,rfl,rfl,rfl,rfl,?_,trivial⟩ (Below.refl _ _)
   refine congrArg Value.bool ?_
   rw [Bool.eq_iff_iff]
   simp [shortB]
   try omega
theorem rgt4 (hfr:Fr 272 a [(1,b),(2,false),(3,p),(4,q),(5,s)]) (hb:Blk w b 47 (cmdCells ck ce cs n epoch kind site client seq name size hA hn hc after since pA pn pc tag)) (hQ:∀ a' w',Fr 272 a' [(1,b),(2,false),(3,p),(4,q),(5,s),(6,.bool (tagB tag))]->Below w w w'->Q .normal a' w') :
 (part [1,1,1,1,0] (codeOf rgtF)).wp prog Q a w:=by
 have c15:=hb.c1 15
 have HQ:=J hQ
 clear hQ hb
 refine gg hfr fun t=>?_
 go_wp2_with fail
 all_goals
  refine HQ.out _ _ ⟨rfl,rfl,rfl,rfl,rfl,rfl,rfl,?_,trivial⟩ (Below.refl _ _)
  refine congrArg Value.bool ?_
  rw [Bool.eq_iff_iff]
  simp [tagB]
  try omega
end
section
variable (r:Bool)
include r
theorem rgtK0 (hr:r=(s&&(nobodyB ce cs&&decide (tag=0)))) (a:Act) (hfr:Fr 272 a [(1,b),(2,false),(3,p),(4,q),(5,s),(6,u)]) (hb:Blk w b 47 (cmdCells 0 ce cs n epoch kind site client seq name size hA hn hc after since pA pn pc tag)) (hw:Below W W w) :
 (part [1,1,1,1,1] (codeOf rgtF)).wp prog (bodyPost prog rgtF fun x w'=>x=.returned (.bool r)/\Below W W w') a w:=by
 obtain⟨c0,c1,c2⟩:=hb.cs 0 3
 have c15:=hb.c1 15
 obtain⟨HW,HE⟩:=J2 hw hr
 clear hb hw hr
 cases s
 ·obtain rfl:r=false:=HE.out
  exact Y52
 have he:r=(nobodyB ce cs&&decide (tag=0)):=HE.out
 have HE:=J he
 clear he
 refine gg hfr fun t=>?_
 go_wp2_with fail
 all_goals
  refine bodyPost_ret (results_tmp rfl _ _ _) rfl ?_
  refine⟨congrArg (fun b=>Ending.returned (Value.bool b)) ?_,HW.out⟩
  rw [HE.out,Bool.eq_iff_iff]
  simp [nobodyB]
  try omega
theorem rgtK2 (hr:r=(u&&(nobodyB ce cs&&s))) (a:Act) (hfr:Fr 272 a [(1,b),(2,false),(3,p),(4,q),(5,s),(6,u)]) (hb:Blk w b 47 (cmdCells 2 ce cs n epoch kind site client seq name size hA hn hc after since pA pn pc tag)) (hw:Below W W w) :
 (part [1,1,1,1,1] (codeOf rgtF)).wp prog (bodyPost prog rgtF fun x w'=>x=.returned (.bool r)/\Below W W w') a w:=by
 obtain⟨c0,c1,c2⟩:=hb.cs 0 3
 obtain⟨HW,HE⟩:=J2 hw hr
 clear hb hw hr
 cases u
 ·obtain rfl:r=false:=HE.out
  exact Y52
 have he:r=(nobodyB ce cs&&s):=HE.out
 have HE:=J he
 clear he
 refine gg hfr fun t=>?_
 go_wp2_with fail
 all_goals
  refine bodyPost_ret (results_tmp rfl _ _ _) rfl ?_
  refine⟨congrArg (fun b=>Ending.returned (Value.bool b)) ?_,HW.out⟩
  rw [HE.out,Bool.eq_iff_iff]
  simp_all [nobodyB]
theorem rgtK4 (hr:r=(s&&(q&&(decide (tag=0))))) (a:Act) (hfr:Fr 272 a [(1,b),(2,false),(3,p),(4,q),(5,s),(6,u)]) (hb:Blk w b 47 (cmdCells 4 ce cs n epoch kind site client seq name size hA hn hc after since pA pn pc tag)) (hw:Below W W w) :
 (part [1,1,1,1,1] (codeOf rgtF)).wp prog (bodyPost prog rgtF fun x w'=>x=.returned (.bool r)/\Below W W w') a w:=by
 have c0:=hb.c1 0
 have c15:=hb.c1 15
 obtain⟨HW,HE⟩:=J2 hw hr
 clear hb hw hr
 cases s
 ·obtain rfl:r=false:=HE.out
  exact Y52
 cases q
 ·obtain rfl:r=false:=HE.out
  exact Y52
 have he:r=(decide (tag=0)):=HE.out
 have HE:=J he
 clear he
 refine gg hfr fun t=>?_
 go_wp2_with fail
 all_goals
  exact Y123
theorem rgtK5 (hr:r=(p&&(q&&(decide (tag=0)&&(decide (pn=0)&&(decide (1<=after)&&(decide (after<=80)&&(decide (1<=since)&&decide (since<=ce))))))))) (a:Act) (hfr:Fr 272 a [(1,b),(2,false),(3,p),(4,q),(5,s),(6,u)]) (hb:Blk w b 47 (cmdCells 5 ce cs n epoch kind site client seq name size hA hn hc after since pA pn pc tag)) (hw:Below W W w) :
 (part [1,1,1,1,1] (codeOf rgtF)).wp prog (bodyPost prog rgtF fun x w'=>x=.returned (.bool r)/\Below W W w') a w:=by
 obtain⟨c0,c1⟩:=hb.cs 0 2
 obtain⟨c12,c13,c14,c15⟩:=hb.cs 12 4
 obtain⟨HW,HE⟩:=J2 hw hr
 clear hb hw hr
 cases p
 ·obtain rfl:r=false:=HE.out
  exact Y52
 cases q
 ·obtain rfl:r=false:=HE.out
  exact Y52
 have he:r=(decide (tag=0)&&(decide (pn=0)&&(decide (1<=after)&&(decide (after<=80)&&(decide (1<=since)&&decide (since<=ce)))))):=HE.out
 have HE:=J he
 clear he
 refine gg hfr fun t=>?_
 go_wp2_with fail
 all_goals
  exact Y123
theorem rgtKO (hr:r=false) (h0:(ck==0)=false) (h1:(ck==1)=false) (h2:(ck==2)=false) (h3:(ck==3)=false) (h4:(ck==4)=false) (h5:(ck==5)=false) (a:Act) (hfr:Fr 272 a [(1,b),(2,false)]) (hb:Blk w b 47 (cmdCells ck ce cs n epoch kind site client seq name size hA hn hc after since pA pn pc tag)) (hw:Below W W w) :
 (part [1,1,1,1,1] (codeOf rgtF)).wp prog (bodyPost prog rgtF fun x w'=>x=.returned (.bool r)/\Below W W w') a w:=by
 subst hr
 have c0:=hb.c1 0
 clear hb
 exact Y163
end
theorem g19 (Q:Z) (a:Act) (hfr:Fr 272 a [(1,b),(2,false),(3,p),(4,q)]) (hb:Blk w b 47 (cmdCells 3 ce cs n epoch kind site client seq name size hA hn hc after since pA pn pc tag)) (ho:OpsIs w S pA pn pc os) (hn:pn<=4294967296) (hok:∀ o∈os,o.Ok) (hQ:∀ a' w',Fr 272 a' [(1,b),(2,false),(203,.bool (!(p&&(q&&(decide (tag=0)&&(decide (pn<=8)&&(decide (since<=ce)&&rowB after since os)))))))]->Below w w w'->Q .normal a' w') :
 (part [1,1,1,1,1,0,1,0,1,1,1,1,1,1,1,0,0,0] (codeOf rgtF)).wp prog Q a w:=by
 have c1:=hb.c1 1
 obtain⟨c12,c13,c14,c15⟩:=hb.cs 12 4
 have HC:=J (rrow_any after since w ho hn hok)
 have HQ:=J hQ
 clear hQ hb ho hok
 cases p
 ·skip
  exact Y83
 cases q
 ·skip
  exact Y83
 refine gg hfr fun t=>?_
 go_wp2_with fail
 all_goals
  first
   | (refine HC.out.mono ?_
      rintro e w1 ⟨rfl,hb1⟩
      have HB1:=J hb1
      clear hb1
      dsimp only
      go_wp2_with fail
      refine HQ.out _ _ ⟨rfl,rfl,rfl,rfl,?_,trivial⟩ HB1.out
      refine congrArg Value.bool ?_
      cases hrw:rowB after since os<;>(rw [Bool.eq_iff_iff];simp;try omega))
   | (refine HQ.out _ _ ⟨rfl, rfl, rfl, rfl, ?_, trivial⟩ (Below.refl _ _)
      refine congrArg Value.bool ?_
      rw [Bool.eq_iff_iff]
      simp
      try omega)
end
end
end Go.Proofs.Ytaipgdhdfpemcaa
