/- THE WALKS OF THE LANE, part 20. -/
import Derived.Test.YtaipgdhdfpemcaaG13
import Derived.Test.YtaipgdhdfpemcaaG19
namespace Go.Proofs.Ytaipgdhdfpemcaa
set_option linter.all false
open Go.RowKit Go.Proofs.Try
set_option maxRecDepth 100000
set_option maxHeartbeats 4000000
section
variable {P:Program} {w:World}
section
variable {a:Act} {K:Act->World->Prop} {ops:Array Oper} {rest:List Oper} {op:Oper} {Q:Z}
theorem run_loadVar_any (a:Addr) (ty:TypeId) (cs:List Value) (d:TypeDesc) (hc:∀ j v,cs[j]? = some v->w.cell? (a.add j)=some v) (hu:P.underlying ty=some d) (hd:d.isRow=true) (hi:(P.info? ty).map (·.size)=some cs.length):(loadVar ty a).run P w=.ok (.agg cs.toArray) w:=by
 have hl:(loadCells a cs.length).run P w=.ok cs.toArray w:=run_loadCells_list (P:=P) w a cs hc
 cases hq:P.info? ty with
 | none=>simp [hq] at hi
 | some i=>
  have hs:i.size=cs.length:=by simpa [hq] using hi
  have hagg:(isAgg ty).run P w=.ok true w:=by
   unfold isAgg
   rw [Sem.run_bind,run_underlying hu w]
   cases d<;>simp_all
  simp [loadVar,Sem.run_bind,hagg,sizeOf,typeInfo,hq,hs,hl]
theorem wp_load_any (ty:TypeId) (x:Operand) (ho:op.op=.load ty x) (p:Addr) (hx:a.eval x=.pointer (some p)) (cs:List Value) (d:TypeDesc) (hc:∀ j v,cs[j]? = some v->w.cell? (p.add j)=some v) (hu:P.underlying ty=some d) (hd:d.isRow=true) (hi:(P.info? ty).map (·.size)=some cs.length) (h:K (a.put op.dst (.agg cs.toArray)) w):op.wp P a w K Q:=by
 unfold Oper.wp execOp
 simp only [ho,hx,Instr.loadAt,Instr.sureAddr,Sem.run_bind,Sem.run_pure,Result.andThen_ok,run_loadVar_any p ty cs d hc hu hd hi]
 exact h
theorem wpList_load_any (hgd:op.guard=none) (ty:TypeId) (x:Operand) (ho:op.op=.load ty x) (p:Addr) (hx:a.eval x=.pointer (some p)) (cs:List Value) (d:TypeDesc) (hc:∀ j v,cs[j]? = some v->w.cell? (p.add j)=some v) (hu:P.underlying ty=some d) (hd:d.isRow=true) (hi:(P.info? ty).map (·.size)=some cs.length) (h:wpList P ops Q rest (a.put op.dst (.agg cs.toArray)) w):wpList P ops Q (op::rest) a w:=
 wpList_plain hgd fun _ hK=>wp_load_any ty x ho p hx cs d hc hu hd hi (hK _ _ h)
end
end
structure MsgX where
 cells:List Value
 m:MailC
instance:Inhabited MsgX:=⟨⟨[],⟨0,0,0,0,0,false,[],⟨#[]⟩,[],0,0,0,0,0,0,[],[]⟩⟩⟩
def MsgsIs (w:World) (S:Nat->Prop) (A:O) (n:Nat) (xs:List MsgX):Prop:=
 Reads w w.heap.size 17 A n (xs.flatMap (·.cells))/\∀ x∈xs,x.cells.length=17/\MailIs w S x.cells.toArray x.m/\x.m.Ok
theorem msgs_len:∀ (xs:List MsgX),(∀ x∈xs,x.cells.length=17)->(xs.flatMap (·.cells)).length=xs.length*17
 | [],_=>rfl
 | x::l,h=>by
  rw [List.flatMap_cons,List.length_append,msgs_len l fun y hy=>h y (List.mem_cons_of_mem _ hy),h x (List.mem_cons_self ..),List.length_cons]
  omega
theorem msgs_at:∀ (xs:List MsgX) (k:Nat) (x:MsgX) (j:Nat),(∀ x∈xs,x.cells.length=17)->xs[k]? = some x->j<17->(xs.flatMap (·.cells))[k*17+j]? = x.cells[j]?
 | [],k,x,j,_,h,_=>by simp at h
 | y::l,0,x,j,hl,h,hj=>by
  simp only [List.getElem?_cons_zero,Option.some.injEq] at h
  subst h
  rw [List.flatMap_cons,List.getElem?_append_left (by rw [hl _ (List.mem_cons_self ..)];omega),Nat.zero_mul,Nat.zero_add]
 | y::l,k+1,x,j,hl,h,hj=>by
  rw [List.flatMap_cons,List.getElem?_append_right (by rw [hl _ (List.mem_cons_self ..)];omega),hl _ (List.mem_cons_self ..),show (k+1)*17+j-17=k*17+j by omega]
  exact msgs_at l k x j (fun z hz=>hl z (List.mem_cons_of_mem _ hz)) (by simpa using h) hj
section
variable {w w':World} {S S':Nat->Prop} {A:O} {n:Nat} {xs:List MsgX}
section
variable {k:Nat}
section
variable (h:MsgsIs w S A n xs)
include h
theorem MsgsIs.below (hb:Below w w w'):MsgsIs w' S A n xs:=
 ⟨(h.1.below hb).more hb.size,fun x hx=>⟨(h.2 x hx).1,(h.2 x hx).2.1.below hb,(h.2 x hx).2.2⟩⟩
theorem MsgsIs.mono (hi:∀ b,b<w.heap.size->S b->S' b):MsgsIs w S' A n xs:=
 ⟨h.1,fun x hx=>⟨(h.2 x hx).1,(h.2 x hx).2.1.mono hi,(h.2 x hx).2.2⟩⟩
theorem MsgsIs.len:xs.length=n:=by
 have h1:=h.1.1
 rw [msgs_len xs fun x hx=>(h.2 x hx).1] at h1
 omega
theorem MsgsIs.at_ (hk:k<n):∃ ad x,A=some ad/\xs[k]? = some x/\(∀ j v,x.cells[j]? = some v->w.cell? ((ad.add (k*17)).add j)=some v)/\x.cells.length=17/\MailIs w S x.cells.toArray x.m/\x.m.Ok:=by
 have hl:=h.len
 obtain⟨ad,rfl,hb,hc⟩:=h.1.2 (by omega)
 have hx:xs[k]? = some xs[k]:=List.getElem?_eq_getElem (by omega)
 obtain⟨h1,h2,h3⟩:=h.2 xs[k] (List.getElem_mem _)
 refine⟨ad,xs[k],rfl,hx,fun j v hv=>?_,h1,h2,h3⟩
 rw [add_of_add]
 refine hc _ v ?_
 rw [msgs_at xs k _ j (fun x hx=>(h.2 x hx).1) hx (by have:=(List.getElem?_eq_some_iff.1 hv).1;omega)]
 exact hv
end
end
end
section
variable {H:Type} {enc:TypeId×Value->H} {w:World} {cs:List Value}
theorem rd_mails (h:Rd H enc prog w 72 cs):∃ A n c xs,cs=[.slice A n c]/\MsgsIs w Any A n xs/\n<=c/\c*208<=140737488351232/\(A=none->c=0):=by
 obtain⟨A,n,c,xs,h1,h2,h3,h4,h5,h6,h7⟩:=h.list (α:=MsgX) (size:=17) underlying72 Try.cMail Try.bMail (by omega) (·.cells) (fun x=>x.cells.length=17/\MailIs w Any x.cells.toArray x.m/\x.m.Ok) (fun cs' hl hr=>by
  obtain⟨m,hm,hok⟩:=rd_mail hl hr
  exact⟨⟨cs',m⟩,rfl,hl,hm,hok⟩)
 exact⟨A,n,c,xs,h1,⟨h2,h7⟩,h4,h5,h6⟩
theorem rd_ops' (h:Rd H enc prog w 28 cs):∃ A n c os,cs=[.slice A n c]/\OpsIs w Any A n c os/\c*96<=140737488351232/\(∀ o∈os,o.Ok)/\(A=none->c=0):=by
 obtain⟨A,n,c,os,h1,h2,h3,h4⟩:=rd_ops h
 obtain⟨A',n',c',e,_,_,_,h5,_⟩:=h.slice underlying28
 rw [h1] at e
 injection e with e _
 injection e with e1 e2 e3
 subst e1 e3
 exact⟨A,n,c,os,h1,h2,h3,h4,h5⟩
end
section
variable {cs l:List OpC} {i:Nat} {S:Nat->Prop} {c:OpC}
theorem ownOps_nil (w:World):Calls prog 34 #[.slice none 0 0] w fun e w'=>e=.returned (.slice none 0 0)/\w'=w:=by
 go_enter func34,ntmps34
 go_wp2_with fail
 go_loopw [3,4] (fun v i wr=>v=.slice none 0 0/\i=.int .i64 0/\wr=w) (fun _ _ _=>0)
 case atStart=>exact⟨rfl,rfl,rfl⟩
 case round=>
  obtain⟨rfl,rfl,rfl⟩:=hrel
  exact Y154
theorem numbered_nil (w:World):Calls prog 31 #[.slice none 0 0] w fun e w'=>e=.returned (.slice none 0 0)/\w'=w:=by
 go_enter func31,ntmps31
 go_wp2_with fail
 refine (ownOps_nil w).mono ?_
 rintro e w1 ⟨rfl,rfl⟩
 go_wp2_with fail
 go_loopw [13] (fun i wr=>i=.int .i64 0/\wr=w1) (fun _ _=>0)
 case atStart=>exact⟨rfl,rfl⟩
 case round=>
  obtain⟨rfl,rfl⟩:=hrel
  exact Y154
theorem numbered_any (A:O) (n cap:Nat) (cs:List OpC) (w:World) (h:OpsIs w S A n cap cs) (hn:n<=4294967296) (hok:∀ c∈cs,c.Ok) (hA:A=none->cap=0) :
 Calls prog 31 #[.slice A n cap] w fun e w'=>∃ A' n' cap',e=.returned (.slice A' n' cap')/\OpsIs w' (From w.heap.size) A' n' cap' (numbC cs)/\n'<=80/\Below w w w':=by
 rcases A with _|ad
 ·have hc:=hA rfl
  obtain⟨os,h1,h2,h3,h4⟩:=h
  subst hc
  have hn0:n=0:=by omega
  subst hn0
  have hl:=h1.1
  rw [opsV_len] at hl
  have hz:=h2.len
  have e:cs=[]:=List.eq_nil_of_length_eq_zero (by omega)
  subst e
  refine (numbered_nil w).mono ?_
  rintro e w1 ⟨rfl,rfl⟩
  exact⟨none,0,0,rfl,OpsIs.nil_ _ _ _ _ (Nat.zero_le _),Nat.zero_le _,Below.refl _ _⟩
 ·exact numbered_some ad n cap cs w h hn hok
theorem numC_mem (h:c∈numC i l):∃ c0∈l,∃ k<l.length,c={c0 with n:=((i+k:Nat):Int)+1}:=by
 obtain⟨k,hk,rfl⟩:=List.mem_iff_getElem.1 h
 rw [numC_len] at hk
 have h0:l[k]? = some l[k]:=List.getElem?_eq_getElem hk
 have h1:=numC_at i l k _ h0
 rw [List.getElem?_eq_getElem (by rw [numC_len];exact hk)] at h1
 injection h1 with h1
 exact⟨l[k],List.getElem_mem _,k,hk,h1⟩
theorem numbC_ok (h:∀ c∈cs,c.Ok):∀ c∈numbC cs,c.Ok:=by
 intro c hc
 obtain⟨c0,h0,k,hk,rfl⟩:=numC_mem hc
 have hc0:=h c0 (List.mem_of_mem_take h0)
 have hl:(cs.take 80).length<=80:=by simp;omega
 exact⟨⟨by show -9223372036854775808<=((0+k:Nat):Int)+1;omega,by show ((0+k:Nat):Int)+1<=9223372036854775807;omega⟩,hc0.epoch,hc0.kind,hc0.site,hc0.client,hc0.seq,hc0.name,hc0.size,hc0.hs⟩
theorem numbC_len (cs:List OpC):(numbC cs).length<=80:=by
 unfold numbC
 rw [numC_len,List.length_take]
 omega
end
section
variable {xs:List ByteArray} {cs:List OpC} {ds:List Opd} {c n:Nat} {S:Nat->Prop} {A:O} {d:Opd} {w:World}
theorem cloneStr_any (w:World) (h:StrIs w S A n c xs) (hn:n*16<=140737488351232) :
 Calls prog 99 #[.slice A n c] w fun x w'=>∃ A' c',x=.returned (.slice A' n c')/\StrIs w' (From w.heap.size) A' n c' xs/\Below w w w':=by
 rcases A with _|ad
 ·have h0 : n = 0 := by
   exact Y127
  subst h0
  have hl:=h.len
  obtain rfl:xs=[]:=List.eq_nil_of_length_eq_zero hl
  have q:∀ (w:World),(binOp .eql 24 (.slice none 0 c) (.slice none 0 0)).run prog w=.ok (.bool true) w:=fun w=>Lib.run_eql_slice_nil w _ _ none 0 c 0 0 underlying24
  clear h hl
  go_enter func99,ntmps99
  exact Y123
 ·have HR:=J h
  clear h
  obtain⟨i0,hi0,hz0,hz1,hz2⟩:=info_parts Try.infoStr
  obtain⟨HI,HZ0,HZ1,HZ2⟩:=J4 hi0 hz0 hz1 hz2
  clear hi0 hz0 hz1 hz2
  have q:∀ (w:World),(binOp .eql 24 (.slice (some ad) n c) (.slice none 0 0)).run prog w=.ok (.bool false) w:=fun w=>Lib.run_eql_slice_nil w _ _ (some ad) n c 0 0 underlying24
  go_enter func99,ntmps99
  go_wp2_with (at_builtin;refine wpList_append_any _ rfl (.tmp 5) (.tmp 6) _ rfl w.heap.size 9 i0 _ 1 16 underlying24 HI.out HZ0.out HZ1.out HZ2.out rfl (by omega) (.slice (some ⟨w.heap.size,0,none⟩) 0 0) 0 [] rfl (own_empty w _ 1) w.heap.size (some ad) n c (strV xs) rfl (HR.out.1.reads.alloc (Nat.le_refl _) _) (strV_one xs) ?c1 ?c2 ?c3 ?_)
  case c1=>unfold maxLen;omega
  case c2=>omega
  case c3=>simp
  intro v1 w2 hown hg hat
  try simp only [Nat.zero_add,List.nil_append] at hown
  have hb2:Below w w w2:=((Below.refl _ _).alloc (Nat.le_refl _) _).grown hg (by simp) (by intro k hk;simp [Value.ownBlock] at hk;omega)
  obtain⟨g1,c1,cur,rfl,hc1,hcm,hg1,hbk,hrd⟩:=own_blk hown hat
  obtain⟨HB,HD⟩:=J2 hb2 hrd
  clear hown hg hat hrd hb2 hbk
  go_wp2
  go_ret
  exact⟨_,_,rfl,⟨Rs.of HD.out fun _ ad e=>by injection e with e;subst e;exact hg1,hc1,hcm⟩,HB.out⟩
theorem opsV_set (pre post:List Opd) (o:Opd) (A:O) (n c:Nat) :
 (opsV (pre++o::post)).set (pre.length*9+8) (.slice A n c)=opsV (pre++{o with hA:=A,hn:=n,hc:=c}::post):=by
 have hl:(opsV pre).length=pre.length*9:=opsV_len pre
 rw [opsV_append,opsV_append,opsV_cons,opsV_cons,List.set_append_right _ _ (by omega),hl,show pre.length*9+8-pre.length*9=8 by omega]
 congr 1
theorem OpsV.split (h:OpsV w S (d::ds) cs):∃ c cs',cs=c::cs'/\OpIs w S d c/\OpsV w S ds cs':=by
 cases cs with
 | nil=>exact h.elim
 | cons c cs'=>exact⟨c,cs',rfl,h.1,h.2⟩
theorem copied_some (ad:Addr) (n c:Nat) (cs:List OpC) (w:World) (h:OpsIs w S (some ad) n c cs) (hn:n<=4294967296) (hok:∀ o∈cs,o.Ok) :
 Calls prog 62 #[.slice (some ad) n c] w fun x w'=>∃ A' c',x=.returned (.slice A' n c')/\OpsIs w' (From w.heap.size) A' n c' cs/\Below w w w':=by
 have hlen:=h.len
 obtain⟨ds,hrs,hov,_,_⟩:=h
 have hdl:=hov.len
 obtain⟨HR,HO,HL,HDL⟩:=J4 hrs.reads hok hlen hdl
 have hov':OpsV w (fun b=>b<w) ds cs:=hov.mono fun b hb _=>hb
 have HV:=J hov'
 clear hrs hok hlen hov hov' hdl
 go_enter func62,ntmps62
 exact Y2
end
section
variable {S:Nat->Prop}
theorem lown_some (ad:Addr) (n c:Nat) (cs:List OpC) (w:World) (h:OpsIs w S (some ad) n c cs) (hn:n<=4294967296) (hok:∀ o∈cs,o.Ok) :
 Calls prog 72 #[.slice (some ad) n c] w fun x w'=>∃ A' c',x=.returned (.slice A' n c')/\OpsIs w' (From w.heap.size) A' n c' cs/\Below w w w':=by
 have hlen:=h.len
 obtain⟨ds,hrs,hov,_,_⟩:=h
 have hdl:=hov.len
 obtain⟨HR,HO,HL,HDL⟩:=J4 hrs.reads hok hlen hdl
 have hov':OpsV w (fun b=>b<w) ds cs:=hov.mono fun b hb _=>hb
 have HV:=J hov'
 clear hrs hok hlen hov hov' hdl
 go_enter func72,ntmps72
 exact Y2
theorem lown_none (c:Nat) (w:World):Calls prog 72 #[.slice none 0 c] w fun x w'=>x=.returned (.slice none 0 0)/\w'=w:=by
 have hc:∀ w:World,Calls prog 98 #[.slice none 0 c] w fun x w'=>x=.returned (.slice none 0 0)/\w'=w:=by
  exact Y69
 have HC:=J hc
 clear hc
 go_enter func72,ntmps72
 go_wp2_with fail
 refine (HC.out w).mono ?_
 exact Y34
theorem lown_any (A:O) (n c:Nat) (cs:List OpC) (w:World) (h:OpsIs w S A n c cs) (hn:n<=4294967296) (hok:∀ o∈cs,o.Ok) :
 Calls prog 72 #[.slice A n c] w fun x w'=>∃ A' c',x=.returned (.slice A' n c')/\OpsIs w' (From w.heap.size) A' n c' cs/\Below w w w':=by
 rcases A with _|ad
 ·have hl:=h.len
  have h0:n=0:=by
   exact Y110
  subst h0
  have e:cs=[]:=List.eq_nil_of_length_eq_zero hl
  subst e
  refine (lown_none c w).mono ?_
  exact Y130
 ·exact lown_some ad n c cs w h hn hok
end
@[reducible] def doneV (e n ep:Int):Value:=.agg #[e,n,ep]
section
variable {cs:Array Value} {f hE hS:Int} {os:List OpC} {c g n:Nat} {S:Nat->Prop} {A:O}
section
variable (w:World) (h:Blk w g 98 cs)
include w h
theorem holder_any (h3:cs[3]? = some (.int .i64 hE)) (h4:cs[4]? = some (.int .i64 hS)) :
 Calls prog 53 #[.pointer (some ⟨g,0,none⟩)] w fun x w'=>x=.returned (.agg #[hE,hS])/\Below w w w':=by
 have hg:=h.lt
 have c3:=(h.alloc (.cells #[.int .i64 0,.int .i64 0] 93)).cell 3
 have c4:=(h.alloc (.cells #[.int .i64 0,.int .i64 0] 93)).cell 4
 rw [h3] at c3
 rw [h4] at c4
 clear h h3 h4
 go_enter func53,ntmps53
 go_wp2
 refine bodyPost_ret (v:=.agg #[hE,hS]) (by simp [results,results53,go_sem]) rfl ?_
 exact Y73
theorem fence_any (h7:cs[7]? = some (.int .i64 f)):Calls prog 24 #[.pointer (some ⟨g,0,none⟩)] w fun x w'=>x=.returned (.int .i64 f)/\w'=w:=by
 have c7:=h.cell 7
 rw [h7] at c7
 clear h h7
 go_enter func24,ntmps24
 exact Y154
theorem opsLed_any (h5:cs[5]? = some (.slice A n c)) (ho:OpsIs w S A n c os) (hn:n<=4294967296) (hok:∀ o∈os,o.Ok) :
 Calls prog 22 #[.pointer (some ⟨g,0,none⟩)] w fun x w'=>∃ A' c',x=.returned (.slice A' n c')/\OpsIs w' (From w.heap.size) A' n c' os/\Below w w w':=by
 have c5:=h.cell 5
 rw [h5] at c5
 have HC:=J (lown_any A n c os w ho hn hok)
 clear h h5 ho hn hok
 go_enter func22,ntmps22
 go_wp2_with fail
 refine HC.out.mono ?_
 rintro x w1 ⟨A',c',rfl,h1,h2⟩
 obtain⟨H1,H2⟩:=J2 h1 h2
 clear h1 h2
 go_wp2
 go_ret
 exact⟨A',c',rfl,H1.out,H2.out⟩
end
end
def lastN (os:List OpC):Int:=os.length
def lastE (os:List OpC):Int:=match os[os.length-1]? with
 | some o=>o.epoch
 | none=>0
def ob (A:O):Option Nat:=A.map (·.block)
theorem ownBlock_slice (A:O) (n c:Nat):(Value.slice A n c).ownBlock=ob A:=by cases A<;>rfl
def RowIs (w:World) (B:Nat) (S:Nat->Prop) (A:O) (n c:Nat) (cs:List OpC):Prop:=
 ∃ ds,w.ownsRow B 45 9 (.slice A n c) n (opsV ds)/\OpsV w (fun b=>S b/\some b≠ob A) ds cs/\∀ g,ob A=some g->S g
section
variable {w w':World} {B:Nat} {S S':Nat->Prop} {A:O} {n c:Nat} {cs:List OpC}
section
variable {xs:List Value} {size:Nat} {e:TypeId} {v:Value}
theorem ownsRow_keep (h:w.ownsRow B e size v n xs) (hk:∀ g,v.ownBlock=some g->w'.heap[g]? = w.heap[g]?):w'.ownsRow B e size v n xs:=by
 refine⟨h.1,?_⟩
 rcases h.2 with h1|⟨g,cap,cur,rfl,h2,h3,h4⟩
 ·exact .inl h1
 ·exact .inr ⟨g,cap,cur,rfl,h2,(hk g rfl).trans h3,h4⟩
section
variable (h:RowIs w B S A n c cs)
include h
theorem RowIs.len:cs.length=n:=by
 obtain⟨ds,h1,h2,_⟩:=h
 have:=h1.1
 rw [opsV_len,h2.len] at this
 omega
theorem RowIs.lt:∀ g,ob A=some g->B<=g/\g<w:=by
 obtain⟨ds,h1,h2,_⟩:=h
 intro g hg
 exact h1.lt g (by rw [ownBlock_slice];exact hg)
theorem RowIs.kept (hk:Kept S w w'):RowIs w' B S A n c cs:=by
 have hlt:=h.lt
 obtain⟨ds,h1,h2,h3⟩:=h
 exact⟨ds,ownsRow_keep h1 fun g hg=>by rw [ownBlock_slice] at hg;exact hk.2 g (h3 g hg) (hlt g hg).2,h2.kept (hk.mono fun b _ x=>x.1),h3⟩
theorem RowIs.mono (hi:∀ b,b<w.heap.size->S b->S' b):RowIs w B S' A n c cs:=by
 have hlt:=h.lt
 obtain⟨ds,h1,h2,h3⟩:=h
 exact⟨ds,h1,h2.mono fun b hb x=>⟨hi b hb x.1,x.2⟩,fun g hg=>hi g (hlt g hg).2 (h3 g hg)⟩
theorem RowIs.opsIs:OpsIs w S A n c cs:=by
 obtain⟨ds,h1,h2,h3⟩:=h
 obtain⟨A',c',e,hc,hm,hr⟩:=own_slice h1
 injection e with e1 e2 e3
 subst e1 e3
 exact⟨ds,Rs.of hr fun _ ad e=>h3 _ (by subst e;rfl),h2.mono fun b _ x=>x.1,hc,hm⟩
end
theorem RowIs.nil_ (w:World) (B:Nat) (S:Nat->Prop):RowIs w B S none 0 0 []:=⟨[],World.ownsRow_nil _ _ _ _,trivial,fun g hg=>by simp [ob] at hg⟩
end
end
section
variable {cs cs2:List OpC} {B c c2 n n2:Nat} {S S2:Nat->Prop} {A A2:O} {w:World}
theorem OpsV.append:∀ {ds:List Opd} {cs:List OpC} {es:List Opd} {fs:List OpC},OpsV w S ds cs->OpsV w S es fs->OpsV w S (ds++es) (cs++fs)
 | [],[],_,_,_,h=>h
 | _::_,_::_,_,_,h,h'=>⟨h.1,OpsV.append h.2 h'⟩
 | [],_::_,_,_,h,_=>h.elim
 | _::_,[],_,_,h,_=>h.elim
theorem run_append_row (ty:TypeId) (h:RowIs w B S A n c cs) (h2:OpsIs w S2 A2 n2 c2 cs2) (hd:∀ b,b<w.heap.size->S2 b->some b≠ob A) (hn:n+n2<=1000000) (hB:B<=w) :
 ∃ A' c' w',(Builtin.append_ #[28,28] ty #[.slice A n c,.slice A2 n2 c2]).run prog w=.ok (.slice A' (n+n2) c') w'/\RowIs w' B (fun b=>S b\/S2 b\/ob A'=some b) A' (n+n2) c' (cs++cs2)/\w.grownBy w' (ob A)/\(ob A'=ob A\/ob A'=some w.heap.size):=by
 obtain⟨ds,h1,hv,hs⟩:=h
 obtain⟨es,hr2,hv2,hc2,hm2⟩:=h2
 obtain⟨i0,hi,hz0,hz1,hz2⟩:=info_parts Try.infoOp
 obtain⟨v',w',hrun,ho,hg,hb⟩:=run_append_any (P:=prog) w B 28 ty 45 i0 _ 9 96 underlying28 hi hz0 hz1 hz2 rfl (by omega) (.slice A n c) n (opsV ds) h1 w.heap.size A2 n2 c2 (opsV es) hr2.reads (opsV_one es) (by unfold maxLen;omega) (by omega) hB
 rw [ownBlock_slice] at hg hb
 rw [<-opsV_append] at ho
 obtain⟨A',c',rfl,_⟩:=own_slice ho
 rw [ownBlock_slice] at hb
 have hk:Kept (fun b=>some b≠ob A) w w':=⟨hg.size,fun b h1 h2=>hg.block b h2 h1⟩
 have hne:∀ b,b<w.heap.size->some b≠ob A->some b≠ob A':=by
  intro b hb1 hb2
  rcases hb with hb|hb
  ·rw [hb];exact hb2
  ·rw [hb];intro e;injection e with e;omega
 refine⟨A',c',w',hrun,⟨ds++es,ho,OpsV.append ?_ ?_,fun g hg=>.inr (.inr hg)⟩,hg,hb⟩
 ·exact (((hv.mono (S':=fun b=>some b≠ob A/\(S b/\b<w)) fun b hb x=>⟨x.2,x.1,hb⟩).kept (hk.mono fun b _ x=>x.1)).mono fun b _ x=>⟨.inl x.2.1,hne b x.2.2 x.1⟩)
 ·exact (((hv2.mono (S':=fun b=>some b≠ob A/\(S2 b/\b<w)) fun b hb x=>⟨hd b hb x,x,hb⟩).kept (hk.mono fun b _ x=>x.1)).mono fun b _ x=>⟨.inr (.inl x.2.1),hne b x.2.2 x.1⟩)
end
structure Led (w:World) (B:Nat) (X:Nat->Prop) (g m1 m2:Nat) (fo os:List OpC) (pA:O) (pn pc:Nat) (lA:O) (ln lc:Nat) (fence settled:Int):Prop where
 fold:FoldAt w w B g m1 m2 fo pA pn pc lA ln lc fence settled 65536 64
 row:RowIs w B X pA pn pc os
 lost:∃ xs,w.ownsRow B 45 9 (.slice lA ln lc) ln xs
 ng:¬ X g
 n1:¬ X m1
 n2:¬ X m2
 nl:∀ q,ob lA=some q->¬ X q/\q≠g/\q≠m1/\q≠m2
 xlt:∀ b,X b->B<=b/\b<w
def All (X:Nat->Prop) (g m1 m2:Nat) (lA:O):Nat->Prop:=fun b=>X b\/b=g\/b=m1\/b=m2\/ob lA=some b
section
variable {W w w':World} {B:Nat} {X:Nat->Prop} {g m1 m2:Nat} {fo os:List OpC} {pA:O} {pn pc:Nat} {lA:O} {ln lc:Nat} {fence settled quota room:Int}
theorem FoldAt.base (h:FoldAt W w B g m1 m2 os pA pn pc lA ln lc fence settled quota room):FoldAt w w B g m1 m2 os pA pn pc lA ln lc fence settled quota room:=
 ⟨h.blk,h.live,h.last,Below.refl _ _,fun _ _ _ _ _=>rfl,h.n1,h.n2,h.n3,h.bg,h.b1,h.b2⟩
theorem FoldAt.keep (h:FoldAt w w B g m1 m2 os pA pn pc lA ln lc fence settled quota room) (hg:w'.heap[g]? = w.heap[g]?) (h1:w'.heap[m1]? = w.heap[m1]?) (h2:w'.heap[m2]? = w.heap[m2]?):FoldAt w' w' B g m1 m2 os pA pn pc lA ln lc fence settled quota room:=
 ⟨hg.trans h.blk,h.live.keep h1,h.last.keep h2,Below.refl _ _,fun _ _ _ _ _=>rfl,h.n1,h.n2,h.n3,h.bg,h.b1,h.b2⟩
section
variable (h:Led w B X g m1 m2 fo os pA pn pc lA ln lc fence settled)
include h
theorem Led.lostLt:∀ q,ob lA=some q->B<=q/\q<w:=by
 obtain⟨xs,h1⟩:=h.lost
 intro q hq
 exact h1.lt q (by rw [ownBlock_slice];exact hq)
theorem Led.allLt:∀ b,All X g m1 m2 lA b->B<=b/\b<w:=by
 rintro b (hx|rfl|rfl|rfl|hx)
 ·exact h.xlt b hx
 ·exact⟨h.fold.bg,h.fold.blk.lt⟩
 ·exact⟨h.fold.b1,h.fold.live.lt⟩
 ·exact⟨h.fold.b2,h.fold.last.lt⟩
 ·exact h.lostLt b hx
theorem Led.keep (hk:Kept (All X g m1 m2 lA) w w'):Led w' B X g m1 m2 fo os pA pn pc lA ln lc fence settled:=by
 have hl:=h.lostLt
 obtain⟨xs,hx⟩:=h.lost
 refine⟨h.fold.keep (hk.2 g (.inr (.inl rfl)) h.fold.blk.lt) (hk.2 m1 (.inr (.inr (.inl rfl))) h.fold.live.lt) (hk.2 m2 (.inr (.inr (.inr (.inl rfl)))) h.fold.last.lt),h.row.kept (hk.mono fun b _ x=>.inl x),⟨xs,ownsRow_keep hx fun q hq=>?_⟩,h.ng,h.n1,h.n2,h.nl,fun b hb=>⟨(h.xlt b hb).1,Nat.lt_of_lt_of_le (h.xlt b hb).2 hk.1⟩⟩
 rw [ownBlock_slice] at hq
 exact hk.2 q (.inr (.inr (.inr (.inr hq)))) (hl q hq).2
theorem Led.below (hb:Below w w w'):Led w' B X g m1 m2 fo os pA pn pc lA ln lc fence settled:=h.keep (Kept.of _ hb)
theorem Led.len:os.length=pn:=h.row.len
end
end
@[reducible] noncomputable def putFF:Func:=Try.f87
def New (X:Nat->Prop) (w W:World):Nat->Prop:=fun b=>X b\/(w.heap.size<=b/\b<W)
def PutS (w:World) (B:Nat) (X:Nat->Prop) (os:List OpC) (pn:Nat) (o:OpC) (cs:Array Value) (R:World->Prop):List Value->World->Prop
 | [],W=>W=w
 | [u],W=>u=.slice (some ⟨w.heap.size,0,none⟩) 1 1/\W=w.alloc (.cells cs 45)
 | [_,u],W=>∃ A' c',u=.slice A' 1 c'/\OpsIs W (From (w.heap.size+1)) A' 1 c' [o]/\Below w w W
 | [_,_,u],W=>∃ A' c',u=.slice A' (pn+1) c'/\RowIs W B (New X w W) A' (pn+1) c' (os++[o])/\Kept (fun b=>¬ X b) w W/\Below B w W
 | [_,_,_,_],W=>R W
 | _,_=>False
section
variable {cs:Array Value} {fence settled:Int} {os:List OpC} {vs:List Value} {B b5 b8 c g lc ln m1 m2 n pc pn:Nat} {S X:Nat->Prop} {A lA pA:O} {o:OpC} {row:Option Nat} {W w w':World} {R:World->Prop}
theorem PutS.some (h:PutS w B X os pn o cs R vs W) (hl:vs.length<=2):Below w w W:=by
 rcases vs with _|⟨u,_|⟨v,_|⟨x,l⟩⟩⟩
 ·obtain rfl:=h;exact Below.refl _ _
 ·obtain⟨_,rfl⟩:=h;exact (Below.refl _ _).alloc (Nat.le_refl _) _
 ·obtain⟨_,_,_,_,h⟩:=h;exact h
 ·simp at hl
theorem below_grown (h:w.grownBy w' row) (hr:∀ b,row=some b->B<=b) (hB:B<=w):Below B w w':=
 ⟨h.os,h.tape,h.output,h.size,fun b hb=>h.block b (by omega) fun e=>by have:=hr b e.symm;omega⟩
theorem put2 (Q:Z) (a:Act) (hfr:Fr 51 a [(0,g),(5,b5),(8,b8)]) (h:Led w B X g m1 m2 os os pA pn pc lA ln lc fence settled) (hb5:Blk w b5 45 (oC o.n o.epoch o.kind o.site o.client o.seq o.name o.size A n c)) (hs:StrIs w S A n c o.hs) (hok:o.Ok) (hB:B<=w) (hn:pn<=1000) (hQ:∀ a' W,Fr 51 a' [(0,g),(5,b5),(8,b8)]->(∃ A' c' X',Led W B X' g m1 m2 os (os++[o]) A' (pn+1) c' lA ln lc fence settled/\Kept (fun b=>¬ X b/\b≠g) w W/\Below B w W/\∀ b,X' b->X b\/w.heap.size<=b)->Q .normal a' W) :
 (part [1,1,0] (codeOf putFF)).wp prog Q a w:=by
 have hd:Led w.drew B X g m1 m2 os os pA pn pc lA ln lc fence settled:=h.keep ⟨Nat.le_refl _,fun _ _ _=>rfl⟩
 have ho:Blk w.drew b5 45 (oC o.n o.epoch o.kind o.site o.client o.seq o.name o.size A n c):=hb5
 have hs':StrIs w.drew S A n c o.hs:=hs.below ⟨rfl,rfl,rfl,Nat.le_refl _,fun _ _=>rfl⟩
 have hB':B<=w.drew.heap.size:=hB
 have HQ:=J (show ∀ a' W,Fr 51 a' [(0,g),(5,b5),(8,b8)]->(∃ A' c' X',Led W B X' g m1 m2 os (os++[o]) A' (pn+1) c' lA ln lc fence settled/\Kept (fun b=>¬ X b/\b≠g) w.drew W/\Below B w.drew W/\∀ b,X' b->X b\/w.drew.heap.size<=b)->Q .normal a' W from fun a' W hf hh=>hQ a' W hf (by obtain⟨A',c',X',h1,h2,h3,h4⟩:=hh;exact⟨A',c',X',h1,h2,⟨h3.os,h3.tape,h3.output,h3.size,h3.block⟩,h4⟩))
 clear h hb5 hs hB hQ
 obtain⟨w0,hw0⟩:∃ w0,w0=w.drew:=⟨_,rfl⟩
 rw [<-hw0] at hd ho hs' hB' HQ
 have HX:Hid (∀ k,ob pA=some k->X k):=J (by obtain⟨ds,_,_,h3⟩:=hd.row;exact h3)
 obtain⟨HL,HO,HS,HK,HB,HN,HW⟩:=J7 hd ho hs' hok hB' hn hw0
 clear hd ho hs' hok hB' hn
 refine gg hfr fun t=>?_
 obtain⟨w1,hw1⟩:∃ w1,w1=w:=⟨_,rfl⟩
 rw [<-hw1]
 rw [<-hw1] at hw0
 clear HW hw1
 refine wp_region_chain kr [6,7,8,11] (fun i=>match i with|0=>g|1=>g|2=>g|3=>.pointer (some ⟨g,5,none⟩)|4=>.slice pA pn pc|5=>.agg #[.int .i64 o.n,o.epoch,o.kind,o.site,o.client,o.seq,.string o.name,o.size,.slice A n c]|9=>g|10=>.pointer (some ⟨g,5,none⟩)|_=>undef) (PutS w0 B X os pn o (oC o.n o.epoch o.kind o.site o.client o.seq o.name o.size A n c) (fun W=>∃ A' c' X',Led W B X' g m1 m2 os (os++[o]) A' (pn+1) c' lA ln lc fence settled/\Kept (fun b=>¬ X b/\b≠g) w0 W/\Below B w0 W/\∀ b,X' b->X b\/w0.heap.size<=b)) (fun s i=>s==8&&decide (1<=i/\i<=8)) kr kr kr kr ?hS ?hfree ?hlink ?hend
 case hS=>exact hw0.symm
 case hfree=>
  intro i o F U vs W ho hni hS hlen hlim hat hoff hd
  have e0:=oo 0 g
  have t0:=act_tmp e0
  have e5:=oo 5 b5
  have t5:=act_tmp e5
  obtain⟨qa,qb⟩:=J2 hat hd
  clear hat hoff hd
  match i with
  | 0|1=>
   exact Y66
  | 2=>
   cases ho
   have t21:=act_tmp (fev qa qb 1 21)
   exact vl ⟨rfl,rfl⟩
  | 3=>
   cases ho
   have t22:=act_tmp (fev qa qb 2 22)
   exact vl ⟨rfl,rfl⟩
  | 4=>
   cases ho
   have t23:=act_tmp (fev qa qb 3 23)
   have hsm:=hS.some (hlim 2 8 rfl rfl)
   exact Y82
  | 5=>
   cases ho
   have hsm:=hS.some (hlim 2 8 rfl rfl)
   have hb5:=HO.out.below hsm HO.out.lt
   obtain⟨d0,d1,d2,d3,d4,d5,d6,d7,d8⟩:=hb5.cs 0 9
   exact vl ⟨rfl,rfl⟩
  | 6|7|8|11=>
   exact Y81
  | 9=>
   cases ho
   have t20:=act_tmp (fev qa qb 0 20)
   exact vl ⟨rfl,rfl⟩
  | 10=>
   cases ho
   have t29:=act_tmp (fev qa qb 9 29)
   exact vl ⟨rfl,rfl⟩
  | i+12=>exact absurd ho (by simp)
 case hlink=>
  intro k i o F U vs W hk ho hS hvl hat hoff hd
  have:=ot 0 g
  have:=ot 5 b5
  obtain⟨qa,qb⟩:=J2 hat hd
  clear hat hoff hd
  match k with
  | 0=>
   cases hk;cases ho;obtain rfl:=List.eq_nil_of_length_eq_zero hvl;have e25:=fev qa qb 5 25;have t25:=act_tmp e25;obtain rfl:=hS
   exact wp_value' (.slice (some ⟨W.heap.size,0,none⟩) 1 1) (W.alloc (.cells (oC o.n o.epoch o.kind o.site o.client o.seq o.name o.size A n c) 45)) (by unfold execOp;go_simp) ⟨_,rfl,rfl,rfl⟩
  | 1=>
   cases hk;cases ho;obtain⟨u0,rfl⟩:=ln1 hvl;have e26:=cev qa qb 6 26;have t26:=act_tmp e26;obtain⟨rfl,rfl⟩:=hS;obtain⟨w1,hw1⟩:∃ w1,w1=w0.alloc (.cells (oC o.n o.epoch o.kind o.site o.client o.seq o.name o.size A n c) 45):=⟨_,rfl⟩;rw [<-hw1]
   have hb1:Below w0 w0 w1:=by rw [hw1];exact (Below.refl _ _).alloc (Nat.le_refl _) _
   have hz1:w1.heap.size=w0.heap.size+1:=by rw [hw1];simp
   have hblk:Blk w1 w0 45 (oC o.n o.epoch o.kind o.site o.client o.seq o.name o.size A n c):=by rw [hw1];exact Blk.new _ _ _
   have hop:OpsIs w1 Any (some ⟨w0.heap.size,0,none⟩) 1 1 [o]:=⟨[o.at_ A n c],Rs.of (hblk.reads (n:=1) (size:=9) rfl) fun _ _ _=>trivial,⟨⟨A,n,c,rfl,(HS.out.mono fun _ _ _=>trivial).below hb1⟩,trivial⟩,by omega,by unfold maxLen;omega⟩
   refine wp_enter' 72 #[.slice (some ⟨w0.heap.size,0,none⟩) 1 1] (by unfold execOp;go_simp) ?_
   refine (lown_any _ 1 1 [o] w1 hop (by omega) (fun x hx=>by rw [List.mem_singleton] at hx;subst hx;exact HK.out)).mono ?_
   rintro e W' ⟨A',c',rfl,h1,h2⟩
   rw [hz1] at h1 h2
   exact⟨_,rfl,_,rfl,⟨A',c',rfl,h1,hb1.trans (h2.mono (by omega))⟩⟩
  | 2=>
   cases hk;cases ho;obtain⟨u0,u1,rfl⟩:=ln2 hvl;have e24:=fev qa qb 4 24;have t24:=act_tmp e24;have e27:=cev qa qb 7 27;have t27:=act_tmp e27;obtain⟨A',c',rfl,h1,h2⟩:=hS;have hL:=HL.out.below h2
   obtain⟨A2,c2,w',hrun,r1,r2,r3⟩:=run_append_row 28 hL.row h1 (fun b hb hx e=>by have h3:=(HL.out.row.lt b e.symm).2;have h4:w0.heap.size+1<=b:=hx;omega) (by have:=HN.out;omega) (by have:=HB.out;have:=h2.size;omega)
   refine wp_value' (.slice A2 (pn+1) c2) w' (by unfold execOp;simp [resolve,invoke,builtin,e24,e27,hrun,Result.andThen]) ⟨_,rfl,A2,c2,rfl,?_,?_,?_⟩
   ·refine r1.mono fun b hb hx=>?_
    have hs2:=h2.size
    rcases hx with hx|hx|hx
    ·exact .inl hx
    ·exact .inr ⟨by have:w0.heap.size+1<=b:=hx;omega,hb⟩
    ·rcases r3 with r3|r3
     ·exact .inl (HX.out b (by rw [<-r3];exact hx))
     ·rw [hx] at r3
      injection r3 with r3
      exact .inr ⟨by omega,hb⟩
   ·exact (Kept.of _ h2).grown r2 fun k hk=>.inl fun h=>h (HX.out k hk)
   ·exact (h2.mono HB.out).trans (below_grown r2 (fun b hb=>(HL.out.row.lt b hb).1) (by have:=HB.out;have:=h2.size;omega))
  | 3=>
   cases hk;cases ho;obtain⟨u0,u1,u2,rfl⟩:=ln3 hvl;have e30:=fev qa qb 10 30;have t30:=act_tmp e30;have e28:=cev qa qb 8 28;have t28:=act_tmp e28;obtain⟨A',c',rfl,h1,h2,h3⟩:=hS;have hg:=(h2.2 g HL.out.ng HL.out.fold.blk.lt).trans HL.out.fold.blk;have f5:W.frozen? ⟨g,5,none⟩=false:=Blk.frozen hg 5;have d5:=Blk.cell hg 5;simp at d5
   refine wp_skip' (W.setCell ⟨g,5,none⟩ (.slice A' (pn+1) c')) (by unfold execOp;go_simp) ⟨_,rfl,A',c',_,?_,?_,h3.setCell (p:=⟨g,5,none⟩) HL.out.fold.bg _,fun b hb=>Or.imp id (fun h=>h.1) (show New X w0 W b from hb)⟩
   rotate_left
   ·exact (h2.mono fun b _ h=>h.1).set_ ⟨g,5,none⟩ (.inl fun h=>h.2 rfl) _
   have hne:∀ b,b≠g->(W.setCell ⟨g,5,none⟩ (.slice A' (pn+1) c')).heap[b]? = W.heap[b]?:=fun b hb=>Below.heap_setCell _ _ _ b hb
   have hk:Kept (fun b=>b≠g) W (W.setCell ⟨g,5,none⟩ (.slice A' (pn+1) c')):=(Kept.refl _ _).set_ ⟨g,5,none⟩ (.inl fun h=>h rfl) _
   have ng':¬ New X w0 W g:=fun h=>h.elim HL.out.ng fun h=>by have:=HL.out.fold.blk.lt;omega
   have hm1:=(h2.2 m1 HL.out.n1 HL.out.fold.live.lt);have hm2:=(h2.2 m2 HL.out.n2 HL.out.fold.last.lt);obtain⟨xs,hlost⟩:=HL.out.lost
   refine⟨⟨Blk.set_ hg 5 _,(HL.out.fold.live.keep hm1).keep (hne m1 HL.out.fold.n1.symm),(HL.out.fold.last.keep hm2).keep (hne m2 HL.out.fold.n2.symm),Below.refl _ _,fun _ _ _ _ _=>rfl,HL.out.fold.n1,HL.out.fold.n2,HL.out.fold.n3,HL.out.fold.bg,HL.out.fold.b1,HL.out.fold.b2⟩,h1.kept (hk.mono fun b _ h e=>ng' (e▸h)),⟨xs,ownsRow_keep hlost fun q hq=>?_⟩,ng',?_,?_,?_,?_⟩
   ·rw [ownBlock_slice] at hq
    exact (hne q (HL.out.nl q hq).2.1).trans (h2.2 q (HL.out.nl q hq).1 (HL.out.lostLt q hq).2)
   ·exact fun h=>h.elim HL.out.n1 fun h=>by have:=HL.out.fold.live.lt;omega
   ·exact fun h=>h.elim HL.out.n2 fun h=>by have:=HL.out.fold.last.lt;omega
   ·exact fun q hq=>⟨fun h=>h.elim (HL.out.nl q hq).1 fun h=>by have:=(HL.out.lostLt q hq).2;omega,(HL.out.nl q hq).2⟩
   ·intro b hb
    have e:(W.setCell ⟨g,5,none⟩ (.slice A' (pn+1) c')).heap.size=W.heap.size:=by simp
    rw [e]
    rcases hb with hb|hb
    ·exact⟨(HL.out.xlt b hb).1,Nat.lt_of_lt_of_le (HL.out.xlt b hb).2 h2.1⟩
    ·exact⟨Nat.le_trans HB.out hb.1,hb.2⟩
  | k+4=>exact absurd hk (by simp)
 case hend=>
  intro U vs W hS hvl hfr hch
  obtain⟨x0,x1,x2,x3,rfl⟩:=ln4 hvl
  exact Y33
end
end Go.Proofs.Ytaipgdhdfpemcaa
