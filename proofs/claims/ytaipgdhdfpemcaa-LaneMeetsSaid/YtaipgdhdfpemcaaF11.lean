/- THE WALKS OF THE LANE, part 11. -/
import Derived.Test.YtaipgdhdfpemcaaF9
namespace Go.Proofs.Ytaipgdhdfpemcaa
set_option linter.all false
open Go.RowKit Go.Proofs.Try
set_option maxRecDepth 100000
set_option maxHeartbeats 4000000
structure CmdC where
 kind:Int
 epoch:Int
 site:Int
 op:OpC
 after:Int
 since:Int
 ops:List OpC
 tag:Int
structure CmdC.Ok (c:CmdC):Prop where
 kind:I64 c.kind
 epoch:I64 c.epoch
 site:I64 c.site
 op:c.op.Ok
 after:I64 c.after
 since:I64 c.since
 ops:c.ops.length*96<=140737488351232
 each:∀ o∈c.ops,o.Ok
 tag:I64 c.tag
@[reducible] def cmdC (kind epoch site:Int) (o:OpC) (hA:O) (hn hc:Nat) (after since:Int) (pA:O) (pn pc:Nat) (tag:Int):Array Value:=
 #[kind,epoch,site,.int .i64 o.n,o.epoch,o.kind,o.site,o.client,o.seq,.string o.name,o.size,.slice hA hn hc,after,since,.slice pA pn pc,tag]
def CmdIs (w:World) (S:Nat->Prop) (cells:Array Value) (c:CmdC):Prop:=
 ∃ hA hn hc pA pn pc,cells=cmdC c.kind c.epoch c.site c.op hA hn hc c.after c.since pA pn pc c.tag/\StrIs w S hA hn hc c.op.hs/\OpsIs w S pA pn pc c.ops
section
variable {w w':World} {S S':Nat->Prop}
section
variable {cells:Array Value} {m:CmdC}
section
variable (h:CmdIs w S cells m)
include h
theorem CmdIs.kept (hk:Kept S w w'):CmdIs w' S cells m:=by
 obtain⟨hA,hn,hc,pA,pn,pc,h0,h1,h2⟩:=h
 exact⟨hA,hn,hc,pA,pn,pc,h0,h1.kept hk,h2.kept hk⟩
theorem CmdIs.below (hb:Below w w w'):CmdIs w' S cells m:=h.kept (Kept.of S hb)
theorem CmdIs.mono (hi:∀ b,b<w.heap.size->S b->S' b):CmdIs w S' cells m:=by
 obtain⟨hA,hn,hc,pA,pn,pc,h0,h1,h2⟩:=h
 exact⟨hA,hn,hc,pA,pn,pc,h0,h1.mono hi,h2.mono hi⟩
end
end
end
theorem same11_any (cs cs':Array Value) (m:CmdC) {S S':Nat->Prop} (w:World) (h:CmdIs w S cs m) (h':CmdIs w S' cs' m) (hok:m.Ok) :
 Calls prog 20 #[.agg cs,.agg cs'] w fun e w'=>e=.returned (.bool true)/\Below w w w':=by
 obtain⟨hA,hn,hc,pA,pn,pc,rfl,h1,h2⟩:=h
 obtain⟨hA',hn',hc',pA',pn',pc',rfl,h1',h2'⟩:=h'
 have l1:=h1.len
 have l2:=h2.len
 have z1:hn<=140737488351232:=by have:=hok.op.hs;omega
 have z2:pn<=140737488351232:=by have:=hok.ops;omega
 have z3:∀ o∈m.ops,o.hs.length<=140737488351232:=fun o ho=>by have:=(hok.each o ho).hs;omega
 have Z3:=J z3
 clear l1 l2 hok z3
 obtain⟨k0,k1,k2,⟨x1,x2,x3,x4,x5,x6,x7,x8,x9⟩,k4,k5,k6,k7⟩:=m
 simp only at h1 h2 h1' h2' Z3
 have hb:Below w w ((w.alloc (.cells (cmdC k0 k1 k2 ⟨x1,x2,x3,x4,x5,x6,x7,x8,x9⟩ hA hn hc k4 k5 pA pn pc k7) 47)).alloc (.cells (cmdC k0 k1 k2 ⟨x1,x2,x3,x4,x5,x6,x7,x8,x9⟩ hA' hn' hc' k4 k5 pA' pn' pc' k7) 47)):=((Below.refl _ _).alloc (Nat.le_refl _) _).alloc (by simp) _
 have hx1:=(Blk.new w 47 (cmdC k0 k1 k2 ⟨x1,x2,x3,x4,x5,x6,x7,x8,x9⟩ hA hn hc k4 k5 pA pn pc k7)).alloc (.cells (cmdC k0 k1 k2 ⟨x1,x2,x3,x4,x5,x6,x7,x8,x9⟩ hA' hn' hc' k4 k5 pA' pn' pc' k7) 47)
 have hx2:Blk ((w.alloc (.cells (cmdC k0 k1 k2 ⟨x1,x2,x3,x4,x5,x6,x7,x8,x9⟩ hA hn hc k4 k5 pA pn pc k7) 47)).alloc (.cells (cmdC k0 k1 k2 ⟨x1,x2,x3,x4,x5,x6,x7,x8,x9⟩ hA' hn' hc' k4 k5 pA' pn' pc' k7) 47)) (w.heap.size+1) 47 (cmdC k0 k1 k2 ⟨x1,x2,x3,x4,x5,x6,x7,x8,x9⟩ hA' hn' hc' k4 k5 pA' pn' pc' k7):=by
  have:=Blk.new (w.alloc (.cells (cmdC k0 k1 k2 ⟨x1,x2,x3,x4,x5,x6,x7,x8,x9⟩ hA hn hc k4 k5 pA pn pc k7) 47)) 47 (cmdC k0 k1 k2 ⟨x1,x2,x3,x4,x5,x6,x7,x8,x9⟩ hA' hn' hc' k4 k5 pA' pn' pc' k7)
  simpa using this
 obtain⟨HB,X1,X2⟩:=J3 hb hx1 hx2
 have so:=sameOp_any ⟨x1,x2,x3,x4,x5,x6,x7,x8,x9⟩ _ (h1.below hb) (h1'.below hb) z1
 obtain⟨SO,R2,Q2⟩:=J3 so h2 h2'
 clear h1 h2 h1' h2' hb hx1 hx2 so
 go_enter func20,ntmps20
 go_wp2_with fail
 refine SO.out.mono ?_
 rintro e w1 ⟨rfl,hb1⟩
 have hy1:=X1.out.below hb1 X1.out.lt
 have hy2:=X2.out.below hb1 X2.out.lt
 have c14:=hy1.c1 14
 have d14:=hy2.c1 14
 have HB1:=J (HB.out.trans (hb1.mono HB.out.size))
 clear hb1 hy1 hy2
 go_wp2_with fail
 refine (sameOps_any _ (R2.out.below HB1.out) (Q2.out.below HB1.out) z2 Z3.out).mono ?_
 rintro e w2 ⟨rfl,hb2⟩
 have HB2:=J (HB1.out.trans (hb2.mono HB1.out.size))
 clear hb2
 go_wp2
 go_ret
 exact⟨rfl,HB2.out⟩
theorem wrap_id {z:Int} (h : -9223372036854775808<=z/\z<=9223372036854775807):wrap64 z=z:=by unfold wrap64;omega
section
variable (z:Int) (hz:0<=z/\z<=512) (w:World)
include z hz w
theorem count_any:Calls prog 113 #[z] w fun x w'=>x=.returned (.int .i64 ((z+63) / 64))/\w'=w:=by
 by_cases h:z<=0
 ·obtain rfl:z=0:=by omega
  clear hz h
  go_enter func113,ntmps113
  exact Y222
 ·have d:decide (z<=0)=false:=decide_eq_false h
  obtain⟨q,hq⟩:∃ q,q=(z-1) / 64:=⟨_,rfl⟩
  have e1:(z-1).tdiv 64=q:=by rw [Int.tdiv_eq_ediv_of_nonneg (by omega),hq]
  have w1:wrap64 (z-1)=z-1:=wrap_id (by omega)
  have HE:Hid (wrap64 (q+1)=(z+63) / 64):=J (by rw [wrap_id (by omega)];omega)
  have HF:Hid (wrap64 (wrap64 q+1)=(z+63) / 64):=J (by rw [wrap_id (z:=q) (by omega),wrap_id (by omega)];omega)
  clear h hq
  go_enter func113,ntmps113
  go_wp2_with fail
  refine bodyPost_ret (results_tmp rfl _ _ _) rfl ?_
  refine⟨congrArg (fun y=>Ending.returned (Value.int .i64 y)) ?_,rfl⟩
  first|exact HE.out|exact HF.out
theorem rcount_any:Calls prog 114 #[z] w fun x w'=>x=.returned (.int .i64 ((z+63) / 64))/\w'=w:=by
 have d0:decide (z<0)=false:=decide_eq_false (by omega)
 obtain⟨q,hq⟩:∃ q,q=z / 64:=⟨_,rfl⟩
 have e1:z.tdiv 64=q:=by rw [Int.tdiv_eq_ediv_of_nonneg (by omega),hq]
 have w1:wrap64 q=q:=wrap_id (by omega)
 have w2:wrap64 (q*64)=q*64:=wrap_id (by omega)
 have w3:wrap64 (q+1)=q+1:=wrap_id (by omega)
 obtain⟨W1,W3⟩:=J2 w1 w3
 by_cases h:q*64<z
 ·have d:decide (q*64<z)=true:=decide_eq_true h
  have HE:Hid ((z+63) / 64=q+1):=J (by omega)
  clear hq h hz
  go_enter func114,ntmps114
  go_wp2_with fail
  refine bodyPost_ret (results_tmp rfl _ _ _) rfl ?_
  refine⟨congrArg (fun y=>Ending.returned (Value.int .i64 y)) ?_,rfl⟩
  rw [HE.out]
  exact W3.out
 ·have d:decide (q*64<z)=false:=decide_eq_false h
  have HE:Hid ((z+63) / 64=q):=J (by omega)
  clear hq h hz
  go_enter func114,ntmps114
  go_wp2_with fail
  refine bodyPost_ret (results_tmp rfl _ _ _) rfl ?_
  refine⟨congrArg (fun y=>Ending.returned (Value.int .i64 y)) ?_,rfl⟩
  rw [HE.out]
  exact W1.out
end
def tagB (z:Int):Bool:=decide (0<=z)&&decide (z<=1099511627776)
theorem tagged_any (z:Int) (w:World):Calls prog 83 #[z] w fun x w'=>x=.returned (.bool (tagB z))/\w'=w:=by
 go_enter func83,ntmps83
 go_wp2_with fail
 all_goals
  refine bodyPost_ret (results_tmp rfl _ _ _) rfl ?_
  refine⟨congrArg (fun b=>Ending.returned (Value.bool b)) ?_,rfl⟩
  rw [Bool.eq_iff_iff]
  simp [tagB]
  try omega
def reignB (e s:Int):Bool:=decide (1<=e)&&(decide (e<=16)&&(decide (0<=s)&&decide (s<2)))
theorem reigned_any (e s:Int) (w:World):Calls prog 85 #[e,s] w fun x w'=>x=.returned (.bool (reignB e s))/\w'=w:=by
 go_enter func85,ntmps85
 go_wp2_with fail
 all_goals
  refine bodyPost_ret (results_tmp rfl _ _ _) rfl ?_
  refine⟨congrArg (fun b=>Ending.returned (Value.bool b)) ?_,rfl⟩
  rw [Bool.eq_iff_iff]
  simp [reignB]
  try omega
def bareB (z:Int) (n:Nat):Bool:=decide (z=0)&&decide (n=0)
theorem bare_any (z:Int) (A:O) (n c:Nat) (w:World):Calls prog 108 #[.agg #[z,.slice A n c]] w fun x w'=>x=.returned (.bool (bareB z n))/\Below w w w':=by
 have hb:∀ o,Below w w (w.alloc o):=fun o=>(Below.refl _ _).alloc (Nat.le_refl _) _
 have HB:=J hb
 clear hb
 go_enter func108,ntmps108
 go_wp2_with fail
 all_goals
  refine bodyPost_ret (results_tmp rfl _ _ _) rfl ?_
  refine⟨congrArg (fun b=>Ending.returned (Value.bool b)) ?_,HB.out _⟩
  rw [Bool.eq_iff_iff]
  simp [bareB]
  try omega
@[reducible] def opCells (n epoch kind site client seq:Int) (name:ByteArray) (size:Int) (A:O) (hn hc:Nat):Array Value:=
 #[n,epoch,kind,site,client,seq,.string name,size,.slice A hn hc]
def blankB (client seq:Int) (name:ByteArray) (size:Int) (hn:Nat):Bool:=decide (client=0)&&(decide (seq=0)&&(decide (name.size=0)&&bareB size hn))
section
variable {b:ByteArray}
theorem toList_nil:b.toList=[]↔b.size=0:=by
 rw [ByteArray.toList_eq,<-List.length_eq_zero_iff,Array.length_toList]
 exact Iff.rfl
theorem blank_any (n epoch kind site client seq:Int) (name:ByteArray) (size:Int) (A:O) (hn hc:Nat) (w:World):Calls prog 82 #[.agg (opCells n epoch kind site client seq name size A hn hc)] w fun x w'=>x=.returned (.bool (blankB client seq name size hn))/\Below w w w':=by
 have hb:∀ o,Below w w (w.alloc o):=fun o=>(Below.refl _ _).alloc (Nat.le_refl _) _
 have HB:=J hb
 clear hb
 go_enter func82,ntmps82
 go_wp2_with fail
 ·refine (bare_any _ _ _ _ _).mono ?_
  rintro e w1 ⟨rfl,hb1⟩
  have HB1:=J ((HB.out _).trans (hb1.mono (by simp)))
  clear hb1
  go_wp2_with fail
  refine bodyPost_ret (results_tmp rfl _ _ _) rfl ?_
  refine⟨congrArg (fun b=>Ending.returned (Value.bool b)) ?_,HB1.out⟩
  rename_i h1 h2 h3
  simp [blankB,h1,h2,toList_nil.1 h3]
 all_goals
  refine bodyPost_ret (results_tmp rfl _ _ _) rfl ?_
  refine⟨congrArg (fun b=>Ending.returned (Value.bool b)) ?_,HB.out _⟩
  rw [Bool.eq_iff_iff]
  simp_all [blankB,toList_nil]
end
def hasL (os:List OpC) (N E:Int):Bool:=decide (N=0)||(decide (N<=os.length)&&match os[(N-1).toNat]? with
 | some o=>decide (o.epoch=E)
 | none=>false)
theorem ledHas_any {g:Nat} {cs:Array Value} {A:O} {n c:Nat} {os:List OpC} {S:Nat->Prop} (N E:Int) (w:World) (hb:Blk w g 98 cs) (h5:cs[5]? = some (.slice A n c)) (ho:OpsIs w S A n c os) (hN:0<=N/\N<=4294967296) :
 Calls prog 88 #[.pointer (some ⟨g,0,none⟩),.agg #[N,E]] w fun x w'=>x=.returned (.bool (hasL os N E))/\Below w w w':=by
 have hlen:=ho.len
 have hlt:=hb.lt
 have hb0:Below w w (w.alloc (.cells #[N,E] 26)):=(Below.refl _ _).alloc (Nat.le_refl _) _
 have hk0:=hb.below hb0 hlt
 have ho0:=ho.below hb0
 have c5:=hk0.cell 5
 rw [h5] at c5
 obtain⟨r,hr⟩:∃ r,r=hasL os N E:=⟨_,rfl⟩
 rw [<-hr]
 obtain⟨HR,HB0⟩:=J2 hr hb0
 by_cases h0:N=0
 ·have e0:(N==0)=true:=beq_iff_eq.2 h0
  obtain rfl:r=true:=by rw [HR.out];unfold hasL;rw [decide_eq_true h0];rfl
  have HE:=J e0
  clear hr h0 hb ho hb0 hk0 ho0 hlen h5 hN
  exact Y62
 have e0:(N==0)=false:=beq_eq_false_iff_ne.2 h0
 by_cases h1:N<=(n:Int)
 ·obtain⟨j,rfl⟩:∃ j:Nat,N=(j:Int)+1:=⟨(N-1).toNat,by omega⟩
  have d1:decide ((j:Int)+1<=(n:Int))=true:=decide_eq_true h1
  obtain⟨ad,o,hA,hn1,hc1,rfl,hab,hck,hop,hss⟩:=ho0.at_ (k:=j) (by omega)
  obtain⟨k0,k1,k2,k3,k4,k5,k6,k7,k8⟩:=hop
  simp only [OpC.at_] at k0 k1 k2 k3 k4 k5 k6 k7 k8
  have w1:IntKind.i64.wrap ((j:Int)+1-1)=(j:Int):=by rw [IntKind.wrap_i64];omega
  have w2:IntKind.i64.wrap (j:Int)=(j:Int):=by rw [IntKind.wrap_i64];omega
  have w3:wrap64 (j:Int)=(j:Int):=wrap_id (by omega)
  have b1:(0:Int)<=(j:Int):=by omega
  have b2:(j:Int)<(n:Int):=by omega
  have ej:((j:Int)+1-1).toNat=j:=by omega
  have hre:r=decide (o.epoch=E):=by rw [HR.out];unfold hasL;rw [decide_eq_false h0,hlen,decide_eq_true h1,ej,hck];rfl
  have HRE:=J hre
  clear hr hre h0 h1 hb ho hb0 hk0 ho0 hlen h5 hN hck hab hss k0 k2 k3 k4 k5 k6 k7 k8 ej
  by_cases he:o.epoch=E
  ·obtain rfl:r=true:=by rw [HRE.out,decide_eq_true he]
   have x1:(o.epoch==E)=true:=beq_iff_eq.2 he
   clear he
   exact Y62
  ·obtain rfl:r=false:=by rw [HRE.out,decide_eq_false he]
   have x1:(o.epoch==E)=false:=beq_eq_false_iff_ne.2 he
   clear he
   exact Y62
 ·have d1:decide (N<=(n:Int))=false:=decide_eq_false h1
  obtain rfl:r=false:=by rw [HR.out];unfold hasL;rw [decide_eq_false h0,hlen,decide_eq_false h1];rfl
  clear hr h0 h1 hb ho hb0 hk0 ho0 hlen h5 hN
  exact Y62
structure LaneC where
 mN:Int
 mE:Int
 wN:Int
 wE:Int
 holes:List Int
 epoch:Int
 site:Int
 next:Int
structure LaneC.Ok (l:LaneC):Prop where
 mN:I64 l.mN
 mE:I64 l.mE
 wN:I64 l.wN
 wE:I64 l.wE
 holes:l.holes.length*8<=140737488351232
 each:∀ z∈l.holes,I64 z
 epoch:I64 l.epoch
 site:I64 l.site
 next:I64 l.next
def LaneIs (w:World) (S:Nat->Prop) (b:Nat) (l:LaneC):Prop:=
 ∃ oA on oc,Blk w b 127 (laneC l.mN l.mE l.wN l.wE oA on oc l.epoch l.site l.next)/\IntIs w S oA on oc l.holes
section
variable {w w':World} {S S':Nat->Prop} {b:Nat} {l:LaneC}
section
variable (h:LaneIs w S b l)
include h
theorem LaneIs.below (hb:Below w w w'):LaneIs w' S b l:=by
 obtain⟨oA,on,oc,h1,h2⟩:=h
 exact⟨oA,on,oc,h1.below hb h1.lt,h2.below hb⟩
theorem LaneIs.lt:b<w:=by
 obtain⟨oA,on,oc,h1,h2⟩:=h
 exact h1.lt
theorem LaneIs.kept (hk:Kept S w w') (hb:w'.heap[b]? = w.heap[b]?):LaneIs w' S b l:=by
 obtain⟨oA,on,oc,h1,h2⟩:=h
 exact⟨oA,on,oc,hb.trans h1,h2.kept hk⟩
end
end
theorem cloneInts_any {A:O} {n c:Nat} {xs:List Int} {S:Nat->Prop} (w:World) (h:IntIs w S A n c xs) (hn:n*8<=140737488351232) :
 Calls prog 61 #[.slice A n c] w fun x w'=>∃ A' c',x=.returned (.slice A' n c')/\IntIs w' (From w.heap.size) A' n c' xs/\Below w w w':=by
 rcases A with _|ad
 ·have h0 : n = 0 := by
   exact Y188
  subst h0
  have hl:=h.len
  obtain rfl:xs=[]:=List.eq_nil_of_length_eq_zero hl
  have q:∀ (w:World),(binOp .eql 27 (.slice none 0 c) (.slice none 0 0)).run prog w=.ok (.bool true) w:=fun w=>Lib.run_eql_slice_nil w _ _ none 0 c 0 0 underlying27
  clear h hl
  go_enter func61,ntmps61
  exact Y185
 ·have HR:=J h
  clear h
  obtain⟨i0,hi0,hz0,hz1,hz2⟩:=info_parts Try.infoInt
  obtain⟨HI,HZ0,HZ1,HZ2⟩:=J4 hi0 hz0 hz1 hz2
  clear hi0 hz0 hz1 hz2
  have q:∀ (w:World),(binOp .eql 27 (.slice (some ad) n c) (.slice none 0 0)).run prog w=.ok (.bool false) w:=fun w=>Lib.run_eql_slice_nil w _ _ (some ad) n c 0 0 underlying27
  go_enter func61,ntmps61
  go_wp2_with (at_builtin;refine wpList_append_any _ rfl (.tmp 5) (.tmp 6) _ rfl w.heap.size 3 i0 _ 1 8 underlying27 HI.out HZ0.out HZ1.out HZ2.out rfl (by omega) (.slice (some ⟨w.heap.size,0,none⟩) 0 0) 0 [] rfl (own_empty w _ 1) w.heap.size (some ad) n c (intV .i64 xs) rfl (HR.out.1.reads.alloc (Nat.le_refl _) _) (intV_one xs) ?c1 ?c2 ?c3 ?_)
  case c1=>unfold maxLen;omega
  case c2=>omega
  case c3=>simp
  intro v1 w2 hown hg hat
  try simp only [Nat.zero_add,List.nil_append] at hown
  have hb2:Below w w w2:=((Below.refl _ _).alloc (Nat.le_refl _) _).grown hg (by simp) (by intro k hk;simp [Value.ownBlock] at hk;omega)
  obtain⟨g1,c1,cur,rfl,hc1,hcm,hg1,hbk,hrd⟩:=own_blk hown hat
  obtain⟨HB,HD⟩:=J2 hb2 hrd
  clear hown hg hat hrd hb2 hbk
  go_wp2
  go_ret
  exact⟨_,_,rfl,⟨Rs.of HD.out fun _ ad e=>by injection e with e;subst e;exact hg1,hc1,hcm⟩,HB.out⟩
theorem eta39 (t:Array Value) (h:t.size=39):t=#[at_ t 0,at_ t 1,at_ t 2,at_ t 3,at_ t 4,at_ t 5,at_ t 6,at_ t 7,at_ t 8,at_ t 9,at_ t 10,at_ t 11,at_ t 12,at_ t 13,at_ t 14,at_ t 15,at_ t 16,at_ t 17,at_ t 18,at_ t 19,at_ t 20,at_ t 21,at_ t 22,at_ t 23,at_ t 24,at_ t 25,at_ t 26,at_ t 27,at_ t 28,at_ t 29,at_ t 30,at_ t 31,at_ t 32,at_ t 33,at_ t 34,at_ t 35,at_ t 36,at_ t 37,at_ t 38]:=(eta_ t h).trans kr
def errB:Bool->Int
 | true=>0
 | false=>3
def h32 (b:ByteArray):Bool:=(b.size:Int)==32
def sheetB (z:Int) (hs:List ByteArray):Bool:=(decide (0<=z)&&(decide (z<=512)&&((hs.length:Int)==(z+63) / 64)))&&hs.all h32
@[reducible] noncomputable def sheetF:Func:=Try.f109
@[reducible] noncomputable def rsheetF:Func:=Try.f110
theorem all_next {f:ByteArray->Bool} {l:List ByteArray} {k:Nat} {x:ByteArray} (h:l[k]? = some x):(l.take (k+1)).all f=((l.take k).all f&&f x):=by
 rw [List.take_add_one,h]
 simp
section
variable {z:Int} {hs:List ByteArray} {b c n:Nat} {S:Nat->Prop} {A:O} {W w:World}
theorem sheet2 (p r:Bool) (hr:r=(p&&hs.all h32)) (a:Act) (hfr:Fr 39 a [(1,b),(3,p)]) (hb:Blk w b 43 #[z,.slice A n c]) (h:StrIs w S A n c hs) (hn:n<=140737488351232) (hw:Below W W w) :
 (part [1,1] (codeOf sheetF)).wp prog (bodyPost prog sheetF fun x w'=>x=.returned (.int .i64 (errB r))/\Below W W w') a w:=by
 have c1:=hb.c1 1
 have hlen:=h.len
 obtain⟨HR,HL,HW,HRR⟩:=J4 h hlen hw hr
 clear h hlen hw hb hr
 refine gg hfr fun t=>?_
 go_wp2_with fail
 go_loopw [3,26] (fun ok i wr=>∃ k:Nat,k<=n/\i=.int .i64 k/\ok=.bool (p&&(hs.take k).all h32)/\Below w w wr) (fun _ i _=>n-(intOf i).toNat)
 case atStart=>exact⟨0,by omega,rfl,by simp,Below.refl _ _⟩
 case round=>
  obtain⟨k,hk,rfl,rfl,hb⟩:=hrel
  have HB:=J hb
  clear hb
  rcases Nat.lt_or_ge k n with hk1|hk1
  ·obtain⟨ad,x,hA,c1,hx⟩:=str_at (HR.out.below HB.out).1.reads hk1
   subst hA
   have hn':=all_next (f:=h32) hx
   have HN:=J hn'
   have b1:(0:Int)<=(k:Int):=by omega
   have b2:(k:Int)<(n:Int):=by omega
   clear hn' hx
   obtain⟨q,hq⟩:∃ q,q=(p&&(hs.take k).all h32):=⟨_,rfl⟩
   have HQ:=J hq
   rw [<-hq]
   clear hq
   go_wp2_with fail
   all_goals
    go_roundw
    case rel=>refine⟨k+1,by omega,by go_num,?_,HB.out⟩;rw [HN.out,<-Bool.and_assoc,<-HQ.out];simp_all [h32]
    case measure=>simp [intOf];omega
  ·obtain rfl:n=k:=by omega
   have hall:(hs.take n).all h32=hs.all h32:=by rw [List.take_of_length_le (by rw [HL.out];exact Nat.le_refl _)]
   rw [hall]
   have HF:=J (HW.out.trans (HB.out.mono HW.out.size))
   cases hq:(p&&hs.all h32)
   all_goals
    have he:=HRR.out.trans hq
    subst he
    exact Y77
theorem sheetCheck_any (z:Int) (w:World) (h:StrIs w S A n c hs) (hn:n<=140737488351232) :
 Calls prog 109 #[.agg #[z,.slice A n c]] w fun x w'=>x=.returned (.int .i64 (errB (sheetB z hs)))/\Below w w w':=by
 have hlen:=h.len
 have hb0:Below w w (w.alloc (.cells #[z,.slice A n c] 43)):=(Below.refl _ _).alloc (Nat.le_refl _) _
 have hbk:=Blk.new w 43 #[z,.slice A n c]
 obtain⟨HB,HK⟩:=J2 hb0 hbk
 have HS:=J (h.below hb0)
 have HL:=J hlen
 obtain⟨r,hr⟩:∃ r,r=sheetB z hs:=⟨_,rfl⟩
 rw [<-hr]
 have HRR:=J hr
 clear h hlen hb0 hbk hr
 go_enter func109,ntmps109
 conv=>arg 2;arg 2;arg 2;change part [1,1] (codeOf sheetF)
 go_wp2_with fail
 cases d1:decide (0<=z)
 ·go_quiet (fail)
  go_wp2_with fail
  refine sheet2 false r (HRR.out.trans (by unfold sheetB;rw [d1];rfl)) _ ?_ (HK.out.below (below_drewN (Below.refl _ _) _) HK.out.lt) (HS.out.below (below_drewN (Below.refl _ _) _)) hn (below_drewN HB.out _)
  exact ff
 ·cases d2:decide (z<=512)
  ·go_quiet (fail)
   go_wp2_with fail
   refine sheet2 false r (HRR.out.trans (by unfold sheetB;rw [d1,d2];rfl)) _ ?_ (HK.out.below (below_drewN (Below.refl _ _) _) HK.out.lt) (HS.out.below (below_drewN (Below.refl _ _) _)) hn (below_drewN HB.out _)
   exact ff
  ·have hz:0<=z/\z<=512:=⟨of_decide_eq_true d1,of_decide_eq_true d2⟩
   go_quiet ((go_at_call 113;exact Calls.quiet_of_same (count_any z hz _)))
   go_wp2_with fail
   refine sheet2 ((n:Int)==(z+63) / 64) r (HRR.out.trans (by unfold sheetB;rw [d1,d2,HL.out];rfl)) _ ?_ (HK.out.below (below_drewN (Below.refl _ _) _) HK.out.lt) (HS.out.below (below_drewN (Below.refl _ _) _)) hn (below_drewN HB.out _)
   exact ff
end
section
variable {z:Int} {hs:List ByteArray} {b c n:Nat} {S:Nat->Prop} {A:O} {W w:World}
theorem rsheet2 (r:Bool) (hr:r=hs.all h32) (a:Act) (hfr:Fr 35 a [(1,b)]) (hb:Blk w b 43 #[z,.slice A n c]) (h:StrIs w S A n c hs) (hn:n<=140737488351232) (hw:Below W W w) :
 (part [1,1] (codeOf rsheetF)).wp prog (bodyPost prog rsheetF fun x w'=>x=.returned (.bool r)/\Below W W w') a w:=by
 have hlen:=h.len
 obtain⟨HR,HL,HW,HRR,HK⟩:=J5 h hlen hw hr hb
 clear h hlen hw hb hr
 refine gg hfr fun t=>?_
 go_wp2_with fail
 go_loopw [3] (fun i wr=>∃ k:Nat,k<=n/\i=.int .i64 k/\(hs.take k).all h32=true/\Below w w wr) (fun i _=>n-(intOf i).toNat)
 case atStart=>exact⟨0,by omega,rfl,by simp,Below.refl _ _⟩
 case round=>
  obtain⟨k,hk,rfl,hall,hb⟩:=hrel
  have c1:=(HK.out.below hb HK.out.lt).cell 1
  simp at c1
  obtain⟨HB,HA⟩:=J2 hb hall
  clear hb hall
  rcases Nat.lt_or_ge k n with hk1|hk1
  ·obtain⟨ad,x,hA,c2,hx⟩:=str_at (HR.out.below HB.out).1.reads hk1
   subst hA
   have hn':=all_next (f:=h32) hx
   have HN:=J hn'
   have b1:(0:Int)<=(k:Int):=by omega
   have b2:(k:Int)<(n:Int):=by omega
   have HX:=J hx
   clear hn' hx
   have dk:decide ((k:Int)<(n:Int))=true:=decide_eq_true b2
   by_cases h3:(x.size:Int)=32
   ·go_wp2_with fail
    go_roundw
    case rel=>exact⟨k+1,by omega,by go_num,by rw [HN.out,HA.out];simp [h32,h3],HB.out⟩
    case measure=>simp [intOf];omega
   ·have hr2 : r = false := by
     rw [HRR.out,List.all_eq_false]
     exact⟨x,List.mem_of_getElem? HX.out,by simp [h32,h3]⟩
    subst hr2
    have HF:=J (HW.out.trans (HB.out.mono HW.out.size))
    exact Y77
  ·obtain rfl:n=k:=by omega
   have hr2:r=true:=by
    rw [HRR.out,<-HA.out,List.take_of_length_le (by rw [HL.out];exact Nat.le_refl _)]
   subst hr2
   have HF:=J (HW.out.trans (HB.out.mono HW.out.size))
   have dk:decide ((n:Int)<(n:Int))=false:=decide_eq_false (by omega)
   exact Y77
theorem rsheet_any (z:Int) (w:World) (h:StrIs w S A n c hs) (hn:n<=140737488351232) :
 Calls prog 110 #[.agg #[z,.slice A n c]] w fun x w'=>x=.returned (.bool (sheetB z hs))/\Below w w w':=by
 have hlen:=h.len
 have hb0:Below w w (w.alloc (.cells #[z,.slice A n c] 43)):=(Below.refl _ _).alloc (Nat.le_refl _) _
 have hbk:=Blk.new w 43 #[z,.slice A n c]
 obtain⟨HB,HK⟩:=J2 hb0 hbk
 have HS:=J (h.below hb0)
 have HL:=J hlen
 obtain⟨r,hr⟩:∃ r,r=sheetB z hs:=⟨_,rfl⟩
 rw [<-hr]
 have HRR:=J hr
 clear h hlen hb0 hbk hr
 go_enter func110,ntmps110
 conv=>arg 2;arg 2;arg 2;change part [1,1] (codeOf rsheetF)
 go_wp2_with fail
 cases d1:decide (0<=z)
 ·have d1':decide (z<0)=true:=decide_eq_true (by have:=of_decide_eq_false d1;omega)
  have hr2:r=false:=HRR.out.trans (by unfold sheetB;rw [d1];rfl)
  subst hr2
  clear d1
  go_quiet (fail)
  exact Y172
 ·have d1':decide (z<0)=false:=decide_eq_false (by have:=of_decide_eq_true d1;omega)
  cases d2:decide (z<=512)
  ·have d2':decide (512<z)=true:=decide_eq_true (by have:=of_decide_eq_false d2;omega)
   have hr2:r=false:=HRR.out.trans (by unfold sheetB;rw [d1,d2];rfl)
   subst hr2
   clear d1 d2
   go_quiet (fail)
   exact Y172
  ·have d2':decide (512<z)=false:=decide_eq_false (by have:=of_decide_eq_true d2;omega)
   have hz:0<=z/\z<=512:=⟨of_decide_eq_true d1,of_decide_eq_true d2⟩
   by_cases h3:(n:Int)=(z+63) / 64
   ·have hr2:r=hs.all h32:=HRR.out.trans (by unfold sheetB;rw [d1,d2,HL.out];simp [h3])
    have HR2:=J hr2
    clear d1 d2 hr2
    go_quiet ((go_at_call 114;exact Calls.quiet_of_same (rcount_any z hz _)))
    go_wp2_with fail
    refine rsheet2 r HR2.out _ ?_ (HK.out.below (below_drewN (Below.refl _ _) _) HK.out.lt) (HS.out.below (below_drewN (Below.refl _ _) _)) hn (below_drewN HB.out _)
    exact ff
   ·have hr2:r=false:=HRR.out.trans (by unfold sheetB;rw [d1,d2,HL.out];simp [h3])
    subst hr2
    clear d1 d2
    go_quiet ((go_at_call 114;exact Calls.quiet_of_same (rcount_any z hz _)))
    exact Y172
end
theorem eta83 (t:Array Value) (h:t.size=83):t=#[at_ t 0,at_ t 1,at_ t 2,at_ t 3,at_ t 4,at_ t 5,at_ t 6,at_ t 7,at_ t 8,at_ t 9,at_ t 10,at_ t 11,at_ t 12,at_ t 13,at_ t 14,at_ t 15,at_ t 16,at_ t 17,at_ t 18,at_ t 19,at_ t 20,at_ t 21,at_ t 22,at_ t 23,at_ t 24,at_ t 25,at_ t 26,at_ t 27,at_ t 28,at_ t 29,at_ t 30,at_ t 31,at_ t 32,at_ t 33,at_ t 34,at_ t 35,at_ t 36,at_ t 37,at_ t 38,at_ t 39,at_ t 40,at_ t 41,at_ t 42,at_ t 43,at_ t 44,at_ t 45,at_ t 46,at_ t 47,at_ t 48,at_ t 49,at_ t 50,at_ t 51,at_ t 52,at_ t 53,at_ t 54,at_ t 55,at_ t 56,at_ t 57,at_ t 58,at_ t 59,at_ t 60,at_ t 61,at_ t 62,at_ t 63,at_ t 64,at_ t 65,at_ t 66,at_ t 67,at_ t 68,at_ t 69,at_ t 70,at_ t 71,at_ t 72,at_ t 73,at_ t 74,at_ t 75,at_ t 76,at_ t 77,at_ t 78,at_ t 79,at_ t 80,at_ t 81,at_ t 82]:=(eta_ t h).trans kr
@[reducible] noncomputable def chkOpF:Func:=Try.f84
def headB (n e s:Int):Bool:=decide (1<=n)&&(decide (n<=80)&&reignB e s)
def ownB (client seq:Int) (name:ByteArray):Bool:=decide (0<=client)&&(decide (client<8)&&(decide (1<=seq)&&(decide (seq<=1099511627776)&&(decide (0<name.size)&&decide (name.size<=16)))))
def kindB (kind client seq:Int) (name:ByteArray) (size:Int) (hs:List ByteArray):Bool:=
 if kind=1 then ownB client seq name&&sheetB size hs else if kind=2 then ownB client seq name&&bareB size hs.length else if kind=3 then blankB client seq name size hs.length else false
def opB (o:OpC):Bool:=headB o.n o.epoch o.site&&kindB o.kind o.client o.seq o.name o.size o.hs
section
variable {n epoch kind site client seq:Int} {name:ByteArray} {size:Int} {A:O} {hn hc:Nat}
section
variable {p:Bool} {hs:List ByteArray} {b:Nat} {S:Nat->Prop} {W w:World}
theorem chkOp1 (Q:Z) (a:Act) (hfr:Fr 83 a [(1,b),(2,.int .i64 0)]) (hb:Blk w b 45 (opCells n epoch kind site client seq name size A hn hc)) (hQ:∀ a',Fr 83 a' [(1,b),(2,.int .i64 0),(3,.bool (headB n epoch site))]->Q .normal a' w) :
 (part [1,0] (codeOf chkOpF)).wp prog Q a w:=by
 obtain⟨c0,c1⟩:=hb.cs 0 2
 have c3:=hb.c1 3
 have HQ:=J hQ
 clear hQ hb
 refine gg hfr fun t=>?_
 go_wp2_with fail
 ·refine (reigned_any _ _ _).mono ?_
  rintro e w1 ⟨rfl,rfl⟩
  go_wp2_with fail
  refine HQ.out _ ⟨rfl,rfl,rfl,rfl,?_,trivial⟩
  rename_i h1 h2
  simp [headB,h1,h2,at_]
 all_goals
  refine HQ.out _ ⟨rfl,rfl,rfl,rfl,?_,trivial⟩
  refine congrArg Value.bool ?_
  rw [Bool.eq_iff_iff]
  simp [headB]
  try omega
theorem chkOp2 (Q:Z) (a:Act) (hfr:Fr 83 a [(1,b),(2,.int .i64 0),(3,p)]) (hb:Blk w b 45 (opCells n epoch kind site client seq name size A hn hc)) (hQ:∀ a',Fr 83 a' [(1,b),(2,.int .i64 0),(3,p),(4,.bool (ownB client seq name))]->Q .normal a' w) :
 (part [1,1,0] (codeOf chkOpF)).wp prog Q a w:=by
 obtain⟨c4,c5,c6⟩:=hb.cs 4 3
 have HQ:=J hQ
 clear hQ hb
 obtain⟨t,df⟩:=a
 obtain⟨hd,hs,h1,h2,h3,-⟩:=hfr
 simp only at hd hs h1 h2 h3
 subst hd
 rw [eta83 t hs,h1,h2,h3]
 clear hs h1 h2 h3
 by_cases hl:name.toList=[]
 ·have hz:=toList_nil.1 hl
  have HZ:=J hz
  clear hz
  conv=>arg 2;whnf
  go_wp2_with fail
  all_goals
   refine HQ.out _ ⟨rfl,rfl,rfl,rfl,rfl,?_,trivial⟩
   refine congrArg Value.bool ?_
   have hz:=HZ.out
   rw [Bool.eq_iff_iff]
   simp [ownB,hz]
 ·have hz:0<name.size:=Nat.pos_of_ne_zero fun h=>hl (toList_nil.2 h)
  have HZ:=J hz
  clear hz
  conv=>arg 2;whnf
  go_wp2_with fail
  all_goals
   refine HQ.out _ ⟨rfl,rfl,rfl,rfl,rfl,?_,trivial⟩
   refine congrArg Value.bool ?_
   have hz:=HZ.out
   rw [Bool.eq_iff_iff]
   simp [ownB,hz]
   try simp only [hl,not_false_eq_true,true_and]
   try omega
theorem chkOp3 (r:Bool) (hr:r=(p&&kindB kind client seq name size hs)) (a:Act) (hfr:Fr 83 a [(1,b),(2,.int .i64 0),(3,p),(4,.bool (ownB client seq name))]) (hb:Blk w b 45 (opCells n epoch kind site client seq name size A hn hc)) (h:StrIs w S A hn hc hs) (hz:hn<=140737488351232) (hw:Below W W w) :
 (part [1,1,1] (codeOf chkOpF)).wp prog (bodyPost prog chkOpF fun x w'=>x=.returned (.int .i64 (errB r))/\Below W W w') a w:=by
 have hlen:=h.len
 obtain⟨HR,HB,HS,HW,HL⟩:=J5 hr hb h hw hlen
 obtain⟨q,hq⟩:∃ q,q=ownB client seq name:=⟨_,rfl⟩
 have HQ:=J hq
 rw [<-hq] at hfr
 have c2:=hb.c1 2
 obtain⟨c7,c8⟩:=hb.cs 7 2
 clear hb h hw hlen hq hr
 by_cases k1:kind=1
 ·skip
  have e:r=(p&&(q&&sheetB size hs)):=by rw [HR.out];simp [kindB,k1];rw [HQ.out]
  have HE:=J e
  have e0:(kind==1)=true:=by simp [k1]
  clear e
  cases p
  ·obtain rfl:r=false:=HE.out
   exact Y18
  cases q
  ·obtain rfl:r=false:=HE.out
   exact Y18
  obtain rfl:r=sheetB size hs:=HE.out
  have hsh:=sheetCheck_any size w HS.out hz
  cases hd:sheetB size hs
  all_goals
   rw [hd] at hsh
   have HC:=J hsh
   clear hsh
   refine gg hfr fun t=>?_
   go_wp2_with fail
   refine HC.out.mono ?_
   rintro e w1 ⟨rfl,hb1⟩
   have HW1:=J (HW.out.trans (hb1.mono HW.out.size))
   clear hb1
   unfold errB
   exact Y43
 by_cases k2:kind=2
 ·skip
  have e:r=(p&&(q&&bareB size hn)):=by rw [HR.out];simp [kindB,k2,HL.out];rw [HQ.out]
  have HE:=J e
  have e0:(kind==1)=false:=by simp [k1]
  have e1:(kind==2)=true:=by simp [k2]
  clear e
  cases p
  ·obtain rfl:r=false:=HE.out
   exact Y18
  cases q
  ·obtain rfl:r=false:=HE.out
   exact Y18
  obtain rfl:r=bareB size hn:=HE.out
  have hsh:=bare_any size A hn hc w
  cases hd:bareB size hn
  all_goals
   exact Y219
 by_cases k3:kind=3
 ·subst k3
  obtain⟨c0,c1⟩:=HB.out.cs 0 2
  obtain⟨c3,c4,c5,c6⟩:=HB.out.cs 3 4
  have e:r=(p&&blankB client seq name size hn):=by rw [HR.out];simp [kindB,HL.out]
  have HE:=J e
  clear e k1 k2
  cases p
  ·obtain rfl:r=false:=HE.out
   exact Y18
  obtain rfl:r=blankB client seq name size hn:=HE.out
  have hsh:=blank_any n epoch 3 site client seq name size A hn hc w
  cases hd:blankB client seq name size hn
  all_goals
   exact Y219
 have e:r=false:=by rw [HR.out];simp [kindB,k1,k2,k3]
 have e1:(kind==1)=false:=by simp [k1]
 have e2:(kind==2)=false:=by simp [k2]
 have e3:(kind==3)=false:=by simp [k3]
 subst e
 refine gg hfr fun t=>?_
 go_wp2_with fail
 go_ret
 exact⟨rfl,HW.out⟩
end
end
theorem checkOp_any {A:O} {n c:Nat} (o:OpC) {S:Nat->Prop} (w:World) (h:StrIs w S A n c o.hs) (hn:n<=140737488351232) :
 Calls prog 84 #[.agg (opCells o.n o.epoch o.kind o.site o.client o.seq o.name o.size A n c)] w fun x w'=>x=.returned (.int .i64 (errB (opB o)))/\Below w w w':=by
 have hb0:Below w w (w.alloc (.cells (opCells o.n o.epoch o.kind o.site o.client o.seq o.name o.size A n c) 45)):=(Below.refl _ _).alloc (Nat.le_refl _) _
 have hbk:=Blk.new w 45 (opCells o.n o.epoch o.kind o.site o.client o.seq o.name o.size A n c)
 obtain⟨HB,HK⟩:=J2 hb0 hbk
 have HS:=J (h.below hb0)
 clear h hb0 hbk
 go_enter func84,ntmps84
 conv=>arg 2;arg 2;change part [1] (codeOf chkOpF)
 go_wp2_with fail
 refine w2 ?_
 refine chkOp1 _ _ ff HK.out fun a1 hf1=>?_
 show (part [1,1] (codeOf chkOpF)).wp prog _ a1 _
 refine w2 ?_
 refine chkOp2 _ a1 hf1 HK.out fun a2 hf2=>?_
 exact chkOp3 (opB o) rfl a2 hf2 HK.out HS.out hn HB.out
@[reducible] noncomputable def rowF:Func:=Try.f86
def stepB (E st:Int) (o:OpC):Bool:=if o.kind=3 then decide (E<o.epoch) else decide (o.epoch=E)&&(decide (st<0)||decide (o.site=st))
def rowFrom:Int->Int->Int->List OpC->Bool
 | _,_,_,[]=>true
 | N,E,st,o::os=>opB o&&(decide (o.n=N+1)&&(stepB E st o&&rowFrom o.n o.epoch o.site os))
def rowHead (N E:Int):Bool:=decide (0<=N)&&(decide (N<=80)&&(decide (0<=E)&&(decide (E<=16)&&decide (N=0↔E=0))))
def rowB (N E:Int) (os:List OpC):Bool:=rowHead N E&&rowFrom N E (-1) os
section
variable {E N:Int} {os:List OpC} {b c k n:Nat} {S:Nat->Prop} {A:O} {o:OpC} {v:Value} {W w:World}
theorem opB_n (h:opB o=true):1<=o.n/\o.n<=80/\0<=o.site/\o.site<2/\1<=o.epoch/\o.epoch<=16:=by
 unfold opB headB reignB at h
 simp only [Bool.and_eq_true,decide_eq_true_eq] at h
 omega
theorem drop_at (h:os[k]? = some o):os.drop k=o::os.drop (k+1):=by
 obtain⟨h1,h2⟩:=List.getElem?_eq_some_iff.1 h
 rw [List.drop_eq_getElem_cons h1,h2]
theorem kept_set2 (hS:¬ S b) (x y:Value):Kept S w ((w.setCell ⟨b,0,none⟩ x).setCell ⟨b,1,none⟩ y).drew:=
 ⟨by simp,fun b' h1 _=>(Below.heap_setCell _ _ _ b' (by rintro rfl;exact hS h1)).trans (Below.heap_setCell _ _ _ b' (by rintro rfl;exact hS h1))⟩
theorem row1 (Q:Z) (a:Act) (hfr:Fr 95 a [(1,v),(2,b)]) (hb:Blk w b 26 #[N,E]) (hQ:∀ a',Fr 95 a' [(1,v),(2,b),(35,(!rowHead N E))]->Q .normal a' w) :
 (part [1,0,0] (codeOf rowF)).wp prog Q a w:=by
 exact Y60
theorem row2 (r:Bool) (hr:r=rowFrom N E (-1) os) (hN:0<=N/\N<=80) (a:Act) (hfr:Fr 95 a [(1,.slice A n c),(2,b)]) (hb:Blk w b 26 #[N,E]) (hbW:W.heap.size<=b) (hS:¬ S b) (ho:OpsIs w S A n c os) (hn:n<=4294967296) (hok:∀ o∈os,o.Ok) (hw:Below W W w) :
 (part [1,1] (codeOf rowF)).wp prog (bodyPost prog rowF fun x w'=>x=.returned (.bool r)/\Below W W w') a w:=by
 have hlen:=ho.len
 obtain⟨HO,HK,HW,HL,HOK,HR⟩:=J6 ho hb hw hlen hok hr
 clear hb ho hw hlen hok hr
 refine gg hfr fun t=>?_
 go_wp2_with fail
 go_loopw [5,38] (fun s i wr=>∃ (k:Nat) (N E st:Int),k<=n/\i=.int .i64 k/\s=.int .i64 st/\Blk wr b 26 #[N,E]/\0<=N/\N<=80/\r=rowFrom N E st (os.drop k)/\OpsIs wr S A n c os/\Below W W wr) (fun _ i _=>n-(intOf i).toNat)
 case atStart=>exact⟨0,N,E,-1,by omega,rfl,rfl,HK.out,hN.1,hN.2,HR.out,HO.out,HW.out⟩
 case round=>
  obtain⟨k,N,E,st,hk,rfl,rfl,hkb,hN1,hN2,hr,ho,hw⟩:=hrel
  obtain⟨HK,HO,HW⟩:=J3 hkb ho hw
  rcases Nat.lt_or_ge k n with hk1|hk1
  ·obtain⟨ad,o,hA,hn1,hc1,rfl,hab,hck,hop,hss⟩:=ho.at_ hk1
   rw [drop_at hck] at hr
   have HR:=J hr
   have hok:=HOK.out o (List.mem_of_getElem? hck)
   have hz:hn1<=140737488351232:=by have:=hok.hs;have:=hss.len;omega
   have hb0:Below wr wr (wr.alloc (.cells (opCells o.n o.epoch o.kind o.site o.client o.seq o.name o.size hA hn1 hc1) 45)):=(Below.refl _ _).alloc (Nat.le_refl _) _
   have hce:=checkOp_any o _ (hss.below hb0) hz
   obtain⟨k0,k1,k2,k3,k4,k5,k6,k7,k8⟩:=hop
   simp only [OpC.at_] at k0 k1 k2 k3 k4 k5 k6 k7 k8
   have b1:(0:Int)<=(k:Int):=by omega
   have b2:(k:Int)<(n:Int):=by omega
   obtain⟨v,hv⟩:∃ v,v=errB (opB o):=⟨_,rfl⟩
   rw [<-hv] at hce
   obtain⟨HC,HV⟩:=J2 hce hv
   have HK0:=J (hkb.below hb0 hkb.lt)
   have HP0:=J (Blk.new wr 45 (opCells o.n o.epoch o.kind o.site o.client o.seq o.name o.size hA hn1 hc1))
   have HW0:=J (hw.trans (hb0.mono hw.size))
   have HO0:=J (ho.below hb0)
   clear hce hv hb0 hkb hw ho hss hr hok
   go_wp2_with fail
   refine HC.out.mono ?_
   rintro e w1 ⟨rfl,hb1⟩
   have hk1':=HK0.out.below hb1 HK0.out.lt
   have hp1:=HP0.out.below hb1 HP0.out.lt
   obtain⟨HK1,HP1⟩:=J2 hk1' hp1
   have HW1:=J (HW0.out.trans (hb1.mono HW0.out.size))
   have HO1:=J (HO0.out.below hb1)
   obtain⟨d0,d1⟩:=hk1'.cs 0 2
   obtain⟨p0,p1⟩:=hp1.cs 0 2
   have p3:=hp1.c1 3
   have f0:w1.frozen? ⟨b,0,none⟩=false:=hk1'.frozen 0
   have f1:w1.frozen? ⟨b,1,none⟩=false:=hk1'.frozen 1
   clear hb1 hk1' hp1 k0 k1 k2 k3 k4 k5 k6 k7 k8
   have w9:wrap64 (N+1)=N+1:=wrap_id (by omega)
   cases hob:opB o
   ·have e:=HV.out
    rw [hob] at e
    obtain rfl:v=3:=e
    have hr2:r=false:=by rw [HR.out];simp [rowFrom,hob]
    subst hr2
    exact Y43
   have e:=HV.out
   rw [hob] at e
   obtain rfl:v=0:=e
   have hon:=opB_n hob
   by_cases hNn:o.n=N+1
   ·by_cases hk3:o.kind=3
    ·have xk:(o.kind==3)=true:=by rw [hk3];rfl
     by_cases hE:E<o.epoch
     ·have x1:decide (o.epoch<=E)=false:=decide_eq_false (by omega)
      have hr2:r=rowFrom o.n o.epoch o.site (os.drop (k+1)):=by rw [HR.out];simp [rowFrom,stepB, *]
      rw [hNn] at hr2
      have HR2:=J hr2
      clear hr2
      go_wp2_with fail
      go_region
      go_wp2_with fail
      go_roundw
      case rel=>exact⟨k+1,N+1,o.epoch,o.site,by omega,by go_num,rfl,set2 HK1.out _ _,by omega,by omega,HR2.out,HO1.out.kept (kept_set2 hS _ _),((HW1.out.setCell hbW _).setCell hbW _).drew⟩
      case measure=>simp [intOf];omega
     ·have x1:decide (o.epoch<=E)=true:=decide_eq_true (by omega)
      exact Y230
    ·have xk:(o.kind==3)=false:=beq_eq_false_iff_ne.2 hk3
     by_cases hE:o.epoch=E
     ·by_cases hst:st<0
      ·have x1:decide (0<=st)=false:=decide_eq_false (by omega)
       have hr2:r=rowFrom o.n o.epoch o.site (os.drop (k+1)):=by rw [HR.out];simp [rowFrom,stepB, *]
       rw [hNn,hE] at hr2
       have HR2:=J hr2
       clear hr2
       go_wp2_with fail
       go_region
       go_wp2_with fail
       go_roundw
       case rel=>exact⟨k+1,N+1,E,o.site,by omega,by go_num,rfl,set2 HK1.out _ _,by omega,by omega,HR2.out,HO1.out.kept (kept_set2 hS _ _),((HW1.out.setCell hbW _).setCell hbW _).drew⟩
       case measure=>simp [intOf];omega
      ·have x1:decide (0<=st)=true:=decide_eq_true (by omega)
       by_cases hs:o.site=st
       ·skip
        have hr2:r=rowFrom o.n o.epoch o.site (os.drop (k+1)):=by rw [HR.out];simp [rowFrom,stepB, *]
        rw [hNn,hE,hs] at hr2
        have HR2:=J hr2
        clear hr2
        go_wp2_with fail
        go_region
        go_wp2_with fail
        go_roundw
        case rel=>exact⟨k+1,N+1,E,st,by omega,by go_num,rfl,set2 HK1.out _ _,by omega,by omega,HR2.out,HO1.out.kept (kept_set2 hS _ _),((HW1.out.setCell hbW _).setCell hbW _).drew⟩
        case measure=>simp [intOf];omega
       ·have x2:(o.site != st)=true:=bne_iff_ne.2 hs
        have hr2:r=false:=by rw [HR.out];simp [rowFrom,stepB,hk3,hst,hs]
        subst hr2
        exact Y43
     ·have x2:(o.epoch != E)=true:=bne_iff_ne.2 hE
      exact Y230
   ·have x2:(o.n != N+1)=true:=bne_iff_ne.2 hNn
    have hr2:r=false:=by rw [HR.out];simp [rowFrom,hNn]
    subst hr2
    exact Y43
  ·obtain rfl:n=k:=by omega
   have hr2:r=true:=by rw [hr,List.drop_eq_nil_of_le (by rw [HL.out];exact Nat.le_refl _)];rfl
   subst hr2
   go_wp2_with fail
   go_ret
   exact⟨rfl,HW.out⟩
theorem row0r (a:Act) (v:Value) (hw:Below W W w) (hfr:Fr 95 a [(1,v)]) (Q:Z) (hQ:∀ a' w',bodyPost prog rowF (fun x w'=>x=.returned (.bool false)/\Below W W w') .ret a' w'->Q .ret a' w'):(part [1,0,1,0] (codeOf rowF)).wp prog Q a w:=by
 exact Y37
theorem row_any (N E:Int) (w:World) (h:OpsIs w S A n c os) (hn:n<=4294967296) (hok:∀ o∈os,o.Ok) :
 Calls prog 86 #[.agg #[N,E],.slice A n c] w fun x w'=>x=.returned (.bool (rowB N E os))/\Below w w w':=by
 have hb0:Below w w (w.alloc (.cells #[N,E] 26)):=(Below.refl _ _).alloc (Nat.le_refl _) _
 have hbk:=Blk.new w 26 #[N,E]
 obtain⟨HB,HK⟩:=J2 hb0 hbk
 have HO:=J ((h.mono (S':=fun b=>S b/\b<w) fun b hb hs=>⟨hs,hb⟩).below hb0)
 obtain⟨r,hr⟩:∃ r,r=rowB N E os:=⟨_,rfl⟩
 rw [<-hr]
 have HR:=J hr
 clear h hb0 hbk hr
 go_enter func86,ntmps86
 conv=>arg 2;arg 2;change part [1] (codeOf rowF)
 go_wp2_with fail
 refine w2 ?_
 refine w2 ?_
 refine row1 _ _ ff HK.out fun a1 hf1=>?_
 show (part [1,0,1] (codeOf rowF)).wp prog _ a1 _
 refine wp_if (x:=part [1,0,1,0] (codeOf rowF)) (y:=part [1,0,1,1] (codeOf rowF)) (o:=.tmp 35) kr (eval_at hf1.2.2.2.2.1 rfl) (fun ht=>?_) fun ht=>?_
 ·have e:r=false:=by rw [HR.out];unfold rowB;rw [show rowHead N E=false by simpa using ht];rfl
  subst e
  exact row0r a1 _ HB.out ⟨hf1.1,hf1.2.1,hf1.2.2.1,trivial⟩ _ fun _ _ h=>h
 have hh:rowHead N E=true:=by simpa using ht
 refine wp_nop kr ?_
 show (part [1,1] (codeOf rowF)).wp prog _ a1 _
 refine row2 r (by rw [HR.out];unfold rowB;rw [hh];rfl) ?_ a1 ⟨hf1.1,hf1.2.1,hf1.2.2.1,hf1.2.2.2.1,trivial⟩ HK.out (Nat.le_refl _) (fun hs=>Nat.lt_irrefl _ hs.2) HO.out hn hok HB.out
 unfold rowHead at hh
 simp only [Bool.and_eq_true,decide_eq_true_eq] at hh
 exact⟨hh.1,hh.2.1⟩
end
def ReachIs (w:World) (S:Nat->Prop) (b:Nat) (N E:Int) (holes:List Int):Prop:=
 ∃ A n c,Blk w b 32 #[N,E,.slice A n c]/\IntIs w S A n c holes
theorem ReachIs.below {w w':World} {S:Nat->Prop} {b:Nat} {N E:Int} {holes:List Int} (h:ReachIs w S b N E holes) (hb:Below w w w'):ReachIs w' S b N E holes:=by
 obtain⟨A,n,c,h1,h2⟩:=h
 exact⟨A,n,c,h1.below hb h1.lt,h2.below hb⟩
def RBlk (w:World) (b:Nat):Prop:=∃ cs,Blk w b 32 cs/\cs.size=3
theorem RBlk.below {w w':World} {b:Nat} (h:RBlk w b) (hb:Below w w w'):RBlk w' b:=by
 obtain⟨cs,h1,h2⟩:=h
 exact⟨cs,h1.below hb h1.lt,h2⟩
end Go.Proofs.Ytaipgdhdfpemcaa
