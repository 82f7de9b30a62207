/- THE WALKS OF LaneEnds, part 7. -/
import Derived.Test.YtaipgdhdfpemcaaH1
import Derived.Test.YtaipgdhdfpemcaaH6
namespace Go.Proofs.Ytaipgdhdfpemcaa
set_option linter.all false
open Go.RowKit Go.Proofs.Try
set_option maxRecDepth 100000
set_option maxHeartbeats 4000000
theorem z64:I64 0:=⟨by omega,by omega⟩
theorem opz_ok':opZ.Ok:=⟨z64,z64,z64,z64,z64,z64,Nat.zero_le _,z64,Nat.zero_le _⟩
theorem meetP_okE {os:List OpC} {fence:Int} {m:MailC} {sN sE:Int} {holes:List Int} (hr:Rows os) (hf:0<=fence/\fence<=16) (hok:m.Ok) (hsN:I64 sN) (hsE:I64 sE) (hjz:holes.length*8<=140737488351232) (hj:∀ z∈holes,I64 z) :
 (meetP os fence m sN sE holes).1.Ok/\(meetP os fence m sN sE holes).2.1.Ok:=by
 have z:=z64
 have hl:=hr.len
 have oz:=opz_ok'
 have cz:cmdZ.Ok:=⟨z,z,z,oz,z,z,Nat.zero_le _,fun _ h=>(by cases h),z⟩
 have mz:mailZ.Ok:=⟨z,z,z,z,z,Nat.zero_le _,Nat.zero_le _,Nat.zero_le _,z,z,z,z,z,z,Nat.zero_le _,fun _ h=>(by cases h),Nat.zero_le _,fun _ h=>(by cases h)⟩
 have e0:([]:List Int).length*8<=140737488351232:=Nat.zero_le _
 have e1:∀ z∈([]:List Int),I64 z:=fun _ h=>(by cases h)
 have hen:=endC_ok hok.atN hok.atE hok.op
 unfold meetP
 split
 ·split
  ·exact⟨ansM_ok (i64_le (by omega) (by omega)) z z z z e0 e1,cz⟩
  ·split
   ·refine⟨ansM_ok hok.epoch ?_ ?_ z z e0 e1,cz⟩
    ·have : Seam.hintN (os.map (·.epoch)) m.atN m.atE <= 80 := by
      unfold Seam.hintN
      split
      ·omega
      ·have:=(Seam.upTo_le (os.map (·.epoch)) (m.atN-1) m.atE).2
       rw [List.length_map] at this
       omega
     exact i64_le (by omega) (by omega)
    ·unfold Seam.ep
     split
     ·exact z
     ·rw [List.getD_eq_getElem?_getD,List.getElem?_map]
      cases hx:os[Seam.hintN (os.map (·.epoch)) m.atN m.atE-1]? with
      | none=>exact z
      | some o=>exact (hr.ok o (List.mem_of_getElem? hx)).epoch
   ·split
    ·refine⟨?_,cz⟩
     dsimp only
     split
     ·exact ansM_ok hok.epoch hen.1 hen.2 hsN hsE hjz hj
     ·exact ansM_ok hok.epoch hen.1 hen.2 z z e0 e1
    ·exact⟨mz,⟨show I64 3 from i64_le (by omega) (by omega),hok.epoch,hok.site,oz,hok.atN,hok.atE,hok.ops,hok.op,z⟩⟩
 ·exact⟨mz,cz⟩
theorem lastC_take {A:List OpC} (h:Row0 A) {k:Nat} (hk:k<=A.length):lastC (A.take k)=((k:Int),epAt A k):=by
 cases k with
 | zero=>rfl
 | succ k=>
  obtain⟨x,hx⟩:∃ x,A[k]? = some x:=⟨_,List.getElem?_eq_getElem (by omega)⟩
  unfold lastC
  rw [List.getLast?_eq_getElem?,List.length_take,Nat.min_eq_left hk,List.getElem?_take,if_pos (by omega),show k+1-1=k from rfl,hx,epAt_some hx]
  show (x.n,x.epoch)=_
  rw [(h.at_ hx).1]
  rfl
section
variable {A B0 b:List OpC} {e s ft:Int} {k:Nat}
theorem offE_ok (h:Ends A B0 e s) (hk:k<=A.length):(offE A e s k).Ok:=by
 have hl:=h.len
 have he:=h.e1
 have hs:=h.s2
 have hep:=h.row.epAt hk
 have z:=z64
 refine⟨show I64 9 from i64_le (by omega) (by omega),z,z,z,z,Nat.zero_le _,Nat.zero_le _,Nat.zero_le _,show I64 e from i64_le (by omega) (by omega),show I64 s from i64_le (by omega) (by omega),show I64 (k:Int) from i64_le (by omega) (by omega),show I64 (epAt A k) from i64_le (by omega) (by omega),z,z,Nat.zero_le _,fun _ h=>(by cases h),?_,fun o ho=>h.row.rows.ok o (List.mem_of_mem_drop (List.mem_of_mem_take ho))⟩
 show ((A.drop k).take 8).length*96<=_
 rw [List.length_take,List.length_drop]
 omega
theorem offE_ops (h:Ends A B0 e s) (k:Nat):(offE A e s k).ops.length<=8:=by
 show ((A.drop k).take 8).length<=8
 rw [List.length_take]
 omega
@[reducible] def offV (e s:Int) (k:Nat) (E:Int) (pA:O) (pn pc:Nat):Array Value:=mailC 9 0 0 0 0 false none 0 0 ⟨#[]⟩ none 0 0 e s k E 0 0 none 0 0 pA pn pc
theorem offV_is {w:World} {S:Nat->Prop} {pA:O} {pn pc:Nat} (h:OpsIs w S pA pn pc ((A.drop k).take 8)):MailIs w S (offV e s k (epAt A k) pA pn pc) (offE A e s k):=
 ⟨none,0,0,none,0,0,none,0,0,pA,pn,pc,rfl,⟨Rs.nil_ _ _ _ _,Nat.le_refl _,Nat.zero_le _⟩,⟨Rs.nil_ _ _ _ _,Nat.le_refl _,Nat.zero_le _⟩,⟨Rs.nil_ _ _ _ _,Nat.le_refl _,Nat.zero_le _⟩,h⟩
end
section
variable {W w:World} {B b5 ga gb lb:Nat} {Ya Yb:Nat->Prop} {kk:Nat} {A B0:List OpC} {e s:Int} {b:List OpC} {ft:Int} {l:LaneC} {oA:O} {oc:Nat} {sA:O} {sc:Nat} {xs:List MsgX} {r:RchC} {jA:O} {jn jc:Nat} {k:Nat}
theorem En.offer (h:En W w B b5 ga gb lb Ya Yb kk A e b ft l oA oc sA sc xs r jA jn jc) (hE:Ends A B0 e s) (hl:LaneE A e s l k 0\/∃ mk,LaneE A e s l k mk) :
 Calls prog 26 #[.pointer (some ⟨lb,0,none⟩),.slice oA A.length oc] w fun x w'=>∃ mc,x=.returned (.agg mc)/\∃ pA pn pc,mc=offV e s k (epAt A k) pA pn pc/\OpsIs w' (From w.heap.size) pA pn pc ((A.drop k).take 8)/\Below w w w':=by
 obtain⟨mk,hl⟩:∃ mk,LaneE A e s l k mk:=hl.elim (fun h=>⟨_,h⟩) id
 have hlen:=hE.len
 have hk:=hl.le
 refine (offerL_any lb l A w k (min A.length (k+8)) (by rw [hl.next];omega) rfl h.lane h.ops (by omega) hE.row.rows.ok).mono ?_
 rintro x w' ⟨A',c',rfl,ho,hb⟩
 refine⟨_,rfl,A',min A.length (k+8)-k,c',?_,?_,hb⟩
 ·rw [hl.epoch,hl.site,lastC_take hE.row hk]
 ·rwa [show (A.drop k).take (min A.length (k + 8) - k) = (A.drop k).take 8 by
   rcases Nat.le_total A.length (k+8) with h|h
   ·rw [Nat.min_eq_left h,List.take_of_length_le (by rw [List.length_drop];omega),List.take_of_length_le (by rw [List.length_drop];omega)]
   ·rw [Nat.min_eq_right h,Nat.add_sub_cancel_left]] at ho
theorem check_off {S:Nat->Prop} {mc:Array Value} (hE:Ends A B0 e s) (hk:k<=A.length) (hm:MailIs w S mc (offE A e s k)):Calls prog 27 #[.agg mc] w fun x w'=>x=.returned (.int .i64 0)/\Below w w w':=by
 refine (check9_any mc (offE A e s k) w rfl hm (offE_ok hE hk) (by have:=offE_ops hE k;omega)).mono ?_
 rintro x w' ⟨rfl,hb⟩
 exact⟨by rw [if_pos (hE.off_right hk)],hb⟩
theorem En.meets (h:En W w B b5 ga gb lb Ya Yb kk A e b ft l oA oc sA sc xs r jA jn jc) (hE:Ends A B0 e s) (hk:k<=A.length) {S:Nat->Prop} {mc:Array Value} (hm:MailIs w S mc (offE A e s k)) (hr:r.Ok) :
 Calls prog 16 #[.pointer (some ⟨gb,0,none⟩),.agg mc,.agg #[.int .i64 r.n,.int .i64 r.e,.slice jA jn jc]] w (MeetR w (meetP b ft (offE A e s k) r.n r.e r.holes)):=by
 obtain⟨m1,m2,pA,pn,pc,lA,ln,lc,st,h1,h2,-⟩:=h.lo.open_
 have hl:=h2.len
 have hrl:=h.lo.rows.len
 exact meet_any w h1 rfl rfl rfl rfl h2 (by omega) h.lo.rows.ok hm h.rch (by have:=offE_ops hE k;omega) (offE_ok hE hk) hr.n hr.e hr.holes hr.each rfl rfl
theorem En.applies (h:En W w B b5 ga gb lb Ya Yb kk A e b ft l oA oc sA sc xs r jA jn jc) {wm:World} (hb:Below w w wm) (hE:Ends A B0 e s) (hk:k<=A.length) {cc:Array Value} (hc:CmdIs wm (From w.heap.size) cc (propC (offE A e s k))) (hok:(propC (offE A e s k)).Ok) (hkk:kk<=800000) :
 Calls prog 13 #[.pointer (some ⟨gb,0,none⟩),.agg cc] wm fun x w'=>(∃ v,x=.returned v)/\∃ Yb',En W w' B b5 ga gb lb Ya Yb' (kk+80) A e (stepC b ft (propC (offE A e s k))).1 (stepC b ft (propC (offE A e s k))).2 l oA oc sA sc xs r jA jn jc:=by
 have hs:=hb.size
 have hbg:=h.big.2
 refine (apply_any cc _ (h.lo.below hb) (by omega) hc hok (fun q hq hy=>by have:=(h.lo.1 q hy).2;have:w.heap.size<=q:=hq;omega) (by omega) (by have:=offE_ops hE k;show (offE A e s k).ops.length<=_;omega)).mono ?_
 rintro x w' ⟨⟨e',n',ep',rfl⟩,ha⟩
 exact⟨⟨_,rfl⟩,_,h.apply hb (Nat.le_add_right _ _) ha⟩
theorem En.takes (h:En W w B b5 ga gb lb Ya Yb kk A e b ft l oA oc sA sc xs r jA jn jc) {wm:World} (hb:Below w w wm) (hlen:A.length<=80) {mc:Array Value} {m:MailC} (hm:MailIs wm (From w.heap.size) mc m) (hok:m.Ok) :
 Calls prog 28 #[.pointer (some ⟨lb,0,none⟩),.agg mc,.slice oA A.length oc] wm fun x w'=>(∃ v,x=.returned v)/\En W w' B b5 ga gb lb Ya Yb kk A e b ft (takeS l m A) oA oc sA sc xs r jA jn jc:=by
 have hm1:=h.below hb
 refine (takeL_any lb l mc m A wm (S:=Fs Yb lb sA) (fun y=>y.2.1 rfl) hm1.free hm1.lane (hm.mono fun q _ hq=>h.free q hq) hok hm1.ops (by omega)).mono ?_
 rintro x w' ⟨rfl,hl,ht⟩
 exact⟨⟨_,rfl⟩,h.take hb hl ht⟩
theorem En.sends (h:En W w B b5 ga gb lb Ya Yb kk A e b ft l oA oc sA sc xs r jA jn jc) (hE:Ends A B0 e s) (hk:k<=A.length) (hx:xs.length<=4000) {pA:O} {pn pc:Nat} {w0:World} (h0:OpsIs w0 (From w.heap.size) pA pn pc ((A.drop k).take 8)) (hb0:Below w w w0) {w3:World} (hb3:Below w0 w0 w3) :
 ∃ sA2 sc2 w',(Builtin.append_ #[72,72] 72 #[.slice sA xs.length sc,.slice (some ⟨w3.heap.size,0,none⟩) 1 1]).run prog (w3.alloc (.cells (offV e s k (epAt A k) pA pn pc) 30))=.ok (.slice sA2 (xs.length+1) sc2) w'/\
  (En W w' B b5 ga gb lb Ya Yb kk A e b ft l oA oc sA2 sc2 (xs++[⟨(offV e s k (epAt A k) pA pn pc).toList,offE A e s k⟩]) r jA jn jc/\(∀ q t cs,w.heap.size<=q->Blk w3 q t cs->Blk w' q t cs)/\OpsIs w' Any pA pn pc ((A.drop k).take 8)):=by
 obtain⟨w4,hw4⟩:∃ w4,w4=w3.alloc (.cells (offV e s k (epAt A k) pA pn pc) 30):=⟨_,rfl⟩
 have hb4:Below w3 w3 w4:=by rw [hw4];exact (Below.refl _ _).alloc (Nat.le_refl _) _
 have s0:=hb0.size
 have s3:=hb3.size
 have s4:=hb4.size
 have h3:=hb0.trans (hb3.mono s0)
 have h4b:=h3.trans (hb4.mono (by omega))
 have h4:=h.below h4b
 have hbk:Blk w4 w3 30 (offV e s k (epAt A k) pA pn pc):=by rw [hw4];exact Blk.new _ _ _
 have ho4:OpsIs w4 (From w.heap.size) pA pn pc ((A.drop k).take 8):=(h0.below hb3).below hb4
 have hsl:∀ q,ob sA=some q->q<w:=fun q hq=>(h.sent.lt q hq).2
 rw [<-hw4]
 obtain⟨A',c',w',hrun,r1,r2,r3⟩:=run_append_mail (c2:=1) (x:=⟨(offV e s k (epAt A k) pA pn pc).toList,offE A e s k⟩) 72 h4.sent (hbk.reads (n:=1) (size:=17) rfl) rfl (offV_is (ho4.mono fun q _ hq=>⟨⟨(h.free q hq).1,(h.free q hq).2.1⟩,(h.free q hq).2.2⟩)) (offE_ok hE hk) (by omega) h4.big.2
 refine⟨A',c',w',hrun,h4.more r1 r2 r3,fun q t cs hq hB=>?_,?_⟩
 ·have hlt:=hB.lt
  exact (hB.below hb4 hlt).grown r2 fun e=>by have:=hsl q e.symm;omega
 ·refine (ho4.kept ⟨r2.size,fun q hq hlt=>r2.block q hlt fun e=>?_⟩).mono fun _ _ _=>trivial
  have:=hsl q e.symm
  have:w.heap.size<=q:=hq
  omega
end
def Offs (A:List OpC) (e s:Int) (xs:List MsgX):Prop:=∀ x∈xs,∃ q,q<=A.length/\x.m=offE A e s q
def St1 (W:World) (B b5 ga gb lb:Nat) (Ya:Nat->Prop) (A B0:List OpC) (e s:Int) (oA:O) (oc:Nat) (r:RchC) (jA:O) (jn jc N:Nat) (a:Act) (w:World):Prop:=
 ∃ i Yb b ft l sA sc xs,i<=N/\Fr 170 a [(5,b5),(9,ga),(10,gb),(12,.slice oA A.length oc),(13,lb),(15,.slice sA xs.length sc),(86,.int .i64 (N:Nat)),(87,.int .i64 (i:Nat))]/\(∃ kk,kk<=20000+i*80/\En W w B b5 ga gb lb Ya Yb kk A e b ft l oA oc sA sc xs r jA jn jc)/\xs.length=i/\Near A B0 e s (N-i) l b ft/\(0<=ft/\ft<=16)/\Offs A e s xs
def St2 (W:World) (B b5 ga gb lb:Nat) (Ya Yb:Nat->Prop) (kk:Nat) (A:List OpC) (e s:Int) (oA:O) (oc:Nat) (sA:O) (sc:Nat) (xs:List MsgX) (r:RchC) (jA:O) (jn jc:Nat) (a:Act) (w:World):Prop:=
 ∃ i l,i<=xs.length/\Fr 170 a [(5,b5),(9,ga),(10,gb),(12,.slice oA A.length oc),(13,lb),(138,.slice sA xs.length sc),(139,.int .i64 (xs.length:Nat)),(140,.int .i64 (i:Nat))]/\En W w B b5 ga gb lb Ya Yb kk A e A e l oA oc sA sc xs r jA jn jc/\LaneE A e s l A.length A.length
def mu1 (n slot:Nat) (a:Act):Nat:=n-(match at_ a.tmps slot with|.int _ k=>k.toNat|_=>0)
theorem Ends.fence {A B0 b:List OpC} {e s ft:Int} (h:Ends A B0 e s) (hb:Now A B0 b) {k:Nat} (hk:k<=A.length) (hf:ft<=e):(stepC b ft (propC (offE A e s k))).2=e:=by
 obtain⟨b',h1,-⟩:=h.step hb hk hf
 rw [h1]
theorem Near.ft_le {A B0 b:List OpC} {e s ft:Int} {n:Nat} {l:LaneC} (h:Near A B0 e s n l b ft):ft<=e:=by
 obtain⟨k,mk,-,-,h⟩:=h
 rcases h with h|h|h|h|h|h
 ·omega
 all_goals exact Int.le_of_eq h.1
section
variable {W w:World} {B b5 ga gb lb N:Nat} {Ya:Nat->Prop} {A B0:List OpC} {e s:Int} {oA:O} {oc:Nat} {r:RchC} {jA:O} {jn jc:Nat}
theorem ends_after {i:Nat} {Yb:Nat->Prop} {kk:Nat} {b:List OpC} {ft:Int} {l:LaneC} {sA:O} {sc:Nat} {xs:List MsgX} {p:MailC×CmdC×Int} {wm:World} {b17 b18 k m:Nat} {mc cc:Array Value}
 (hE:Ends A B0 e s) (h:En W w B b5 ga gb lb Ya Yb kk A e b ft l oA oc sA sc xs r jA jn jc) (hb:Below w w wm) (hok:p.1.Ok/\p.2.1.Ok) (hk:k<=A.length) (hkk:kk<=800000) (hf:0<=ft/\ft<=16) (hfe:ft<=e) (hnow:Now A B0 b)
 (hround:(p.2.2=2/\p.2.1=propC (offE A e s k)/\Near A B0 e s m l (stepC b ft (propC (offE A e s k))).1 (stepC b ft (propC (offE A e s k))).2)\/(p.2.2=1/\Near A B0 e s m (takeS l p.1 A) b ft))
 (h17:Blk wm b17 30 mc) (h18:Blk wm b18 47 cc) (hm:MailIs wm (From w.heap.size) mc p.1) (hc:CmdIs wm (From w.heap.size) cc p.2.1)
 (Q:Z) (a:Act) (hfr:Fr 170 a [(5,b5),(9,ga),(10,gb),(12,.slice oA A.length oc),(13,lb),(15,.slice sA xs.length sc),(17,b17),(18,b18),(19,.int .i64 p.2.2),(86,.int .i64 (N:Nat)),(87,.int .i64 (i:Nat))])
 (hQ:∀ a' w' Yb' b' ft' l' kk',Fr 170 a' [(5,b5),(9,ga),(10,gb),(12,.slice oA A.length oc),(13,lb),(15,.slice sA xs.length sc),(86,.int .i64 (N:Nat)),(87,.int .i64 (i:Nat))]->kk'<=kk+80->En W w' B b5 ga gb lb Ya Yb' kk' A e b' ft' l' oA oc sA sc xs r jA jn jc->Near A B0 e s m l' b' ft'->(0<=ft'/\ft'<=16)->Q .normal a' w') :
 (part [1,1,1,1,1,1,1,1,1,1,1,1,0,1,0,0,1,1,0,0,1,1,1,1] (codeOf endsF)).wp prog Q a wm:=by
 have hs17:=mail_size hm
 have hs16:=cmd_size hc
 have he1:=hE.e1
 refine Wt ?_
 refine Wt ?_
 refine ee23 _ a hfr fun a1 hf1=>?_
 show (part [1,1,1,1,1,1,1,1,1,1,1,1,0,1,0,0,1,1,0,0,1,1,1,1,0,1] (codeOf endsF)).wp prog _ a1 wm
 obtain⟨hd,hz,f5,f9,f10,f12,f13,f15,f17,f18,f19,f86,f87,f108,-⟩:=hf1
 rcases hround with ⟨w2,wc,hn⟩|⟨w1,hn⟩
 ·refine wp_if (o:=.tmp 108) (x:=part [1,1,1,1,1,1,1,1,1,1,1,1,0,1,0,0,1,1,0,0,1,1,1,1,0,1,0] (codeOf endsF)) (y:=part [1,1,1,1,1,1,1,1,1,1,1,1,0,1,0,0,1,1,0,0,1,1,1,1,0,1,1] (codeOf endsF)) (t:=p.2.2==2) kr (eval_at f108 rfl) (fun _=>?_) fun hf0=>(by rw [w2] at hf0;cases hf0)
  rw [wc] at hc hok
  refine ee24 _ a1 ⟨hd,hz,f5,f9,f10,f12,f13,f15,f17,f18,f19,f86,f87,trivial⟩ h18 hs16.1 _ (h.applies hb hE hk hc hok.2 hkk) fun a2 w2' hf2 hr2=>?_
  obtain⟨Yb',hen⟩:=hr2
  show (part [1,1,1,1,1,1,1,1,1,1,1,1,0,1,0,0,1,1,0,0,1,1,1,1,1] (codeOf endsF)).wp prog _ a2 w2'
  refine Wt ?_
  refine ee25 _ a2 hf2 fun a3 hf3=>?_
  show (part [1,1,1,1,1,1,1,1,1,1,1,1,0,1,0,0,1,1,0,0,1,1,1,1,1,1] (codeOf endsF)).wp prog _ a3 w2'
  obtain⟨hd,hz,f5,f9,f10,f12,f13,f15,f17,f18,f19,f86,f87,f113,-⟩:=hf3
  refine wp_if (o:=.tmp 113) (x:=part [1,1,1,1,1,1,1,1,1,1,1,1,0,1,0,0,1,1,0,0,1,1,1,1,1,1,0] (codeOf endsF)) (y:=part [1,1,1,1,1,1,1,1,1,1,1,1,0,1,0,0,1,1,0,0,1,1,1,1,1,1,1] (codeOf endsF)) (t:=p.2.2==1) kr (eval_at f113 rfl) (fun hf0=>(by rw [w2] at hf0;cases hf0)) fun _=>?_
  refine wp_nop kr (hQ a3 w2' _ _ _ _ _ ⟨hd,hz,f5,f9,f10,f12,f13,f15,f86,f87,trivial⟩ (Nat.le_refl _) hen hn ?_)
  rw [hE.fence hnow hk hfe]
  omega
 ·refine wp_if (o:=.tmp 108) (x:=part [1,1,1,1,1,1,1,1,1,1,1,1,0,1,0,0,1,1,0,0,1,1,1,1,0,1,0] (codeOf endsF)) (y:=part [1,1,1,1,1,1,1,1,1,1,1,1,0,1,0,0,1,1,0,0,1,1,1,1,0,1,1] (codeOf endsF)) (t:=p.2.2==2) kr (eval_at f108 rfl) (fun hf0=>(by rw [w1] at hf0;cases hf0)) fun _=>?_
  refine wp_nop kr ?_
  show (part [1,1,1,1,1,1,1,1,1,1,1,1,0,1,0,0,1,1,0,0,1,1,1,1,1] (codeOf endsF)).wp prog _ a1 wm
  refine Wt ?_
  refine ee25 _ a1 ⟨hd,hz,f5,f9,f10,f12,f13,f15,f17,f18,f19,f86,f87,trivial⟩ fun a3 hf3=>?_
  show (part [1,1,1,1,1,1,1,1,1,1,1,1,0,1,0,0,1,1,0,0,1,1,1,1,1,1] (codeOf endsF)).wp prog _ a3 wm
  obtain⟨hd,hz,f5,f9,f10,f12,f13,f15,f17,f18,f19,f86,f87,f113,-⟩:=hf3
  refine wp_if (o:=.tmp 113) (x:=part [1,1,1,1,1,1,1,1,1,1,1,1,0,1,0,0,1,1,0,0,1,1,1,1,1,1,0] (codeOf endsF)) (y:=part [1,1,1,1,1,1,1,1,1,1,1,1,0,1,0,0,1,1,0,0,1,1,1,1,1,1,1] (codeOf endsF)) (t:=p.2.2==1) kr (eval_at f113 rfl) (fun _=>?_) fun hf0=>(by rw [w1] at hf0;cases hf0)
  refine ee26 _ a3 ⟨hd,hz,f5,f9,f10,f12,f13,f15,f17,f18,f19,f86,f87,trivial⟩ h17 hs17.1 _ (h.takes hb hE.len hm hok.1) fun a4 w4 hf4 hr4=>?_
  obtain⟨hd,hz,f5,f9,f10,f12,f13,f15,f17,f18,f19,f86,f87,-⟩:=hf4
  exact hQ a4 w4 _ _ _ _ _ ⟨hd,hz,f5,f9,f10,f12,f13,f15,f86,f87,trivial⟩ (Nat.le_add_right _ _) hr4 hn hf
theorem ends_round {i:Nat} {Yb:Nat->Prop} {kk:Nat} {b:List OpC} {ft:Int} {l:LaneC} {sA:O} {sc:Nat} {xs:List MsgX} {m:Nat} (hE:Ends A B0 e s) (h:En W w B b5 ga gb lb Ya Yb kk A e b ft l oA oc sA sc xs r jA jn jc) (hn:Near A B0 e s (m+1) l b ft) (hf:0<=ft/\ft<=16) (hr:r.Ok) (hx:xs.length<=4000) (ho:Offs A e s xs) (hkk:kk<=800000)
 (Q:Z) (a:Act) (hfr:Fr 170 a [(5,b5),(9,ga),(10,gb),(12,.slice oA A.length oc),(13,lb),(15,.slice sA xs.length sc),(86,.int .i64 (N:Nat)),(87,.int .i64 (i:Nat))])
 (hQ:∀ a' w' Yb' b' ft' l' sA' sc' xs' kk',Fr 170 a' [(5,b5),(9,ga),(10,gb),(12,.slice oA A.length oc),(13,lb),(15,.slice sA' xs'.length sc'),(86,.int .i64 (N:Nat)),(87,.int .i64 (i:Nat))]->kk'<=kk+80->En W w' B b5 ga gb lb Ya Yb' kk' A e b' ft' l' oA oc sA' sc' xs' r jA jn jc->xs'.length=xs.length+1->Near A B0 e s m l' b' ft'->(0<=ft'/\ft'<=16)->Offs A e s xs'->Q .normal a' w') :
 (part [1,1,1,1,1,1,1,1,1,1,1,1,0,1,0,0,1,1,0,0] (codeOf endsF)).wp prog Q a w:=by
 obtain⟨n0,n1,hl,hnow⟩:=hn.next
 have hfe:=hn.ft_le
 obtain⟨k,hk0⟩:∃ k,k=l.next.toNat:=⟨_,rfl⟩
 rw [<-hk0] at hl
 have hk:=hl.le
 have hround:=hE.round hn r.n r.e r.holes
 rw [<-hk0] at hround
 refine Wt ?_
 refine ee18 _ a hfr _ (h.offer hE (.inr ⟨_,hl⟩)) (fun mc w' hm=>by obtain⟨pA,pn,pc,rfl,-⟩:=hm;exact⟨rfl,mailC_one⟩) fun a1 w1 w2 mc hm hf1 hb16 hl2=>?_
 show (part [1,1,1,1,1,1,1,1,1,1,1,1,0,1,0,0,1,1,0,0,1] (codeOf endsF)).wp prog _ a1 w2
 obtain⟨pA,pn,pc,rfl,hops,hl1⟩:=hm
 have s1:=hl1.size
 have hm2:=(offV_is (e:=e) (s:=s) hops).below hl2
 refine Wt ?_
 refine Wt ?_
 refine ee19 _ a1 hf1 hb16 rfl (check_off hE hk hm2) fun a2 w3 hf2 hl3=>?_
 show (part [1,1,1,1,1,1,1,1,1,1,1,1,0,1,0,0,1,1,0,0,1,0,1] (codeOf endsF)).wp prog _ a2 w3
 obtain⟨hd,hz,f5,f9,f10,f12,f13,f15,f16,f86,f87,f94,-⟩:=hf2
 refine wp_if (o:=.tmp 94) (x:=part [1,1,1,1,1,1,1,1,1,1,1,1,0,1,0,0,1,1,0,0,1,0,1,0] (codeOf endsF)) (y:=part [1,1,1,1,1,1,1,1,1,1,1,1,0,1,0,0,1,1,0,0,1,0,1,1] (codeOf endsF)) (t:=false) kr (eval_at f94 rfl) (fun h=>by cases h) fun _=>?_
 refine wp_nop kr ?_
 show (part [1,1,1,1,1,1,1,1,1,1,1,1,0,1,0,0,1,1,0,0,1,1] (codeOf endsF)).wp prog _ a2 w3
 refine Wt ?_
 have hb3:=hb16.below hl3 hb16.lt
 refine ee21 _ a2 ⟨hd,hz,f5,f9,f10,f12,f13,f15,f16,f86,f87,trivial⟩ hb3 _ (h.sends hE hk hx hops hl1 (hl2.trans (hl3.mono hl2.size))) fun a3 w4 sA2 sc2 hr4 hf3=>?_
 show (part [1,1,1,1,1,1,1,1,1,1,1,1,0,1,0,0,1,1,0,0,1,1,1] (codeOf endsF)).wp prog _ a3 w4
 obtain⟨h4,hkeep,hops4⟩:=hr4
 have hb4:=hkeep _ _ _ s1 hb3
 have hm4:=offV_is (e:=e) (s:=s) hops4
 refine Wt ?_
 have hok:=meetP_okE (sN:=r.n) (sE:=r.e) (holes:=r.holes) h4.lo.rows hf (offE_ok hE hk) hr.n hr.e hr.holes hr.each
 obtain⟨p,hp⟩:∃ p,p=meetP b ft (offE A e s k) r.n r.e r.holes:=⟨_,rfl⟩
 have hmeet:=h4.meets hE hk hm4 hr
 rw [<-hp] at hround hok hmeet
 refine ee22 _ a3 hf3 hb4 rfl h4.box hmeet fun a4 w5 w6 mc1 cc1 hf4 s5 q17 q18 hm5 hc5 hl6=>?_
 show (part [1,1,1,1,1,1,1,1,1,1,1,1,0,1,0,0,1,1,0,0,1,1,1,1] (codeOf endsF)).wp prog _ a4 w6
 have hlen:(xs++[(⟨(offV e s k (epAt A k) pA pn pc).toList,offE A e s k⟩:MsgX)]).length=xs.length+1:=by simp
 rw [<-hlen] at hf4
 refine ends_after (i:=i) hE h4 hl6 hok hk hkk hf hfe hnow hround q17 q18 hm5 hc5 _ a4 hf4 fun a5 w7 Yb' b' ft' l' kk' hf5 hkk' h7 hn7 hf7=>hQ a5 w7 Yb' b' ft' l' sA2 sc2 (xs++[(⟨(offV e s k (epAt A k) pA pn pc).toList,offE A e s k⟩:MsgX)]) kk' hf5 hkk' h7 hlen hn7 hf7 ?_
 intro x hx
 rcases List.mem_append.1 hx with hx|hx
 ·exact ho x hx
 ·rw [List.mem_singleton] at hx
  subst hx
  exact⟨k,hk,rfl⟩
theorem ends_loop1 (hE:Ends A B0 e s) (hr:r.Ok) (hN:N<=100) (Q:Z) (a:Act) (h:St1 W B b5 ga gb lb Ya A B0 e s oA oc r jA jn jc N a w)
 (hQ:∀ a' w' Yb b ft l sA sc xs kk,Fr 170 a' [(5,b5),(9,ga),(10,gb),(12,.slice oA A.length oc),(13,lb),(15,.slice sA xs.length sc)]->kk<=30000->En W w' B b5 ga gb lb Ya Yb kk A e b ft l oA oc sA sc xs r jA jn jc->Near A B0 e s 0 l b ft->Offs A e s xs->xs.length<=100->Q .normal a' w') :
 (part [1,1,1,1,1,1,1,1,1,1,1,1,0,1] (codeOf endsF)).wp prog Q a w:=by
 have round:∀ (Q:Z) (hexit:∀ a' w' Yb b ft l sA sc xs kk,Fr 170 a' [(5,b5),(9,ga),(10,gb),(12,.slice oA A.length oc),(13,lb),(15,.slice sA xs.length sc)]->kk<=30000->En W w' B b5 ga gb lb Ya Yb kk A e b ft l oA oc sA sc xs r jA jn jc->Near A B0 e s 0 l b ft->Offs A e s xs->xs.length<=100->Q (.exit 0) a' w')
  (a:Act) (w:World),St1 W B b5 ga gb lb Ya A B0 e s oA oc r jA jn jc N a w->(∀ a' w',St1 W B b5 ga gb lb Ya A B0 e s oA oc r jA jn jc N a' w'/\mu1 N 87 a'<mu1 N 87 a->Q .normal a' w')->(part [1,1,1,1,1,1,1,1,1,1,1,1,0,1,0,0] (codeOf endsF)).wp prog Q a w:=by
  intro Q hexit a w ⟨i,Yb,b,ft,l,sA,sc,xs,hi,hf,⟨kk,hkk,hen⟩,hlen,hn,hft,hof⟩ hQ
  have hmu:at_ a.tmps 87=.int .i64 (i:Nat):=hf.2.2.2.2.2.2.2.2.2.1
  refine Wt ?_
  refine ee17 _ a hf fun a1 hf1=>?_
  show (part [1,1,1,1,1,1,1,1,1,1,1,1,0,1,0,0,1] (codeOf endsF)).wp prog _ a1 w
  refine Wt ?_
  obtain⟨hd,hz,f5,f9,f10,f12,f13,f15,f86,f87,f88,-⟩:=hf1
  refine wp_if (o:=.tmp 88) (x:=part [1,1,1,1,1,1,1,1,1,1,1,1,0,1,0,0,1,0,0] (codeOf endsF)) (y:=part [1,1,1,1,1,1,1,1,1,1,1,1,0,1,0,0,1,0,1] (codeOf endsF)) (t:=decide (i<N)) kr (eval_at f88 rfl) (fun ht=>?_) fun ht=>?_
  ·have hi1:=of_decide_eq_true ht
   refine wp_nop kr ?_
   show (part [1,1,1,1,1,1,1,1,1,1,1,1,0,1,0,0,1,1] (codeOf endsF)).wp prog Q a1 w
   refine Wt ?_
   refine wp_blk (x:=part [1,1,1,1,1,1,1,1,1,1,1,1,0,1,0,0,1,1,0,0] (codeOf endsF)) (id:=1) kr ?_
   refine ends_round (i:=i) (m:=N-(i+1)) hE hen (by rw [show N-(i+1)+1=N-i by omega];exact hn) hft hr (by omega) hof (by omega) _ a1 ⟨hd,hz,f5,f9,f10,f12,f13,f15,f86,f87,trivial⟩ fun a2 w2 Yb' b' ft' l' sA' sc' xs' kk' hf2 hkk2 h2 hl2 hn2 hft2 hof2=>?_
   show (part [1,1,1,1,1,1,1,1,1,1,1,1,0,1,0,0,1,1,1] (codeOf endsF)).wp prog Q a2 w2
   refine ee27 (by omega) _ a2 hf2 fun a3 hf3=>hQ a3 w2 ⟨⟨i+1,Yb',b',ft',l',sA',sc',xs',hi1,hf3,⟨kk',by omega,h2⟩,by omega,hn2,hft2,hof2⟩,?_⟩
   have e2:at_ a3.tmps 87=.int .i64 ((i+1:Nat):Nat):=hf3.2.2.2.2.2.2.2.2.2.1
   unfold mu1
   exact EY24
  ·have hi1:=of_decide_eq_false ht
   have e0:part [1,1,1,1,1,1,1,1,1,1,1,1,0,1,0,0,1,0,1] (codeOf endsF)=Code.exit 0:=by kernel_rfl
   rw [e0]
   have hiN:i=N:=by omega
   subst hiN
   rw [Nat.sub_self] at hn
   exact wp_exit (hexit a1 w Yb b ft l sA sc xs kk ⟨hd,hz,f5,f9,f10,f12,f13,f15,trivial⟩ (by omega) hen hn hof (by omega))
 refine wp_blk (x:=part [1,1,1,1,1,1,1,1,1,1,1,1,0,1,0] (codeOf endsF)) (id:=0) kr ?_
 have el:part [1,1,1,1,1,1,1,1,1,1,1,1,0,1,0] (codeOf endsF)=Code.loop (part [1,1,1,1,1,1,1,1,1,1,1,1,0,1,0,0] (codeOf endsF)):=by kernel_rfl
 rw [el]
 refine wp_loop (St1 W B b5 ga gb lb Ya A B0 e s oA oc r jA jn jc N) (fun a _=>mu1 N 87 a) h fun a2 w2 hI=>?_
 refine round _ ?_ a2 w2 hI ?_
 ·exact fun a' w' Yb b ft l sA sc xs kk h1 h2 h3 h4 h5 h6=>hQ a' w' Yb b ft l sA sc xs kk h1 h2 h3 h4 h5 h6
 ·exact fun a' w' hh=>hh
theorem ends_loop2 {Yb:Nat->Prop} {kk:Nat} {sA:O} {sc:Nat} {xs:List MsgX} (hE:Ends A B0 e s) (hr:r.Ok) (hx:xs.length<=4000) (ho:Offs A e s xs) (Q:Z) (a:Act) (h:St2 W B b5 ga gb lb Ya Yb kk A e s oA oc sA sc xs r jA jn jc a w)
 (hQ:∀ a' w' l,Fr 170 a' [(5,b5),(9,ga),(10,gb),(12,.slice oA A.length oc),(13,lb)]->En W w' B b5 ga gb lb Ya Yb kk A e A e l oA oc sA sc xs r jA jn jc->LaneE A e s l A.length A.length->Q .normal a' w') :
 (part [1,1,1,1,1,1,1,1,1,1,1,1,1,1,0,1] (codeOf endsF)).wp prog Q a w:=by
 have round:∀ (Q:Z) (hexit:∀ a' w' l,Fr 170 a' [(5,b5),(9,ga),(10,gb),(12,.slice oA A.length oc),(13,lb)]->En W w' B b5 ga gb lb Ya Yb kk A e A e l oA oc sA sc xs r jA jn jc->LaneE A e s l A.length A.length->Q (.exit 2) a' w')
  (a:Act) (w:World),St2 W B b5 ga gb lb Ya Yb kk A e s oA oc sA sc xs r jA jn jc a w->(∀ a' w',St2 W B b5 ga gb lb Ya Yb kk A e s oA oc sA sc xs r jA jn jc a' w'/\mu1 xs.length 140 a'<mu1 xs.length 140 a->Q .normal a' w')->(part [1,1,1,1,1,1,1,1,1,1,1,1,1,1,0,1,0,0] (codeOf endsF)).wp prog Q a w:=by
  intro Q hexit a w ⟨i,l,hi,hf,hen,hla⟩ hQ
  have hmu:at_ a.tmps 140=.int .i64 (i:Nat):=hf.2.2.2.2.2.2.2.2.2.1
  refine Wt ?_
  refine ee31 _ a hf fun a1 hf1=>?_
  show (part [1,1,1,1,1,1,1,1,1,1,1,1,1,1,0,1,0,0,1] (codeOf endsF)).wp prog _ a1 w
  refine Wt ?_
  obtain⟨hd,hz,f5,f9,f10,f12,f13,f138,f139,f140,f141,-⟩:=hf1
  refine wp_if (o:=.tmp 141) (x:=part [1,1,1,1,1,1,1,1,1,1,1,1,1,1,0,1,0,0,1,0,0] (codeOf endsF)) (y:=part [1,1,1,1,1,1,1,1,1,1,1,1,1,1,0,1,0,0,1,0,1] (codeOf endsF)) (t:=decide (i<xs.length)) kr (eval_at f141 rfl) (fun ht=>?_) fun ht=>?_
  ·have hi1:=of_decide_eq_true ht
   refine wp_nop kr ?_
   show (part [1,1,1,1,1,1,1,1,1,1,1,1,1,1,0,1,0,0,1,1] (codeOf endsF)).wp prog Q a1 w
   refine Wt ?_
   refine wp_blk (x:=part [1,1,1,1,1,1,1,1,1,1,1,1,1,1,0,1,0,0,1,1,0,0] (codeOf endsF)) (id:=3) kr ?_
   obtain⟨ad,x,esA,hxi,hcell,h17,hmi,hmo⟩:=hen.sent.msgs.1.at_ hi1
   obtain⟨k,hk,hxm⟩:=ho x (List.mem_of_getElem? hxi)
   have hs:=mail_size hmi
   rw [esA] at f138
   refine Wt ?_
   refine ee32 (ad:=ad) (mc:=x.cells.toArray) _ a1 ⟨hd,hz,f5,f9,f10,f12,f13,f138,f139,f140,trivial⟩ hcell hs.1 hs.2 hi1 fun a2 w2 hf2 hb2 hl2=>?_
   show (part [1,1,1,1,1,1,1,1,1,1,1,1,1,1,0,1,0,0,1,1,0,0,1] (codeOf endsF)).wp prog _ a2 w2
   rw [<-esA] at hf2
   have h2:=hen.below hl2
   have hm2:=hmi.below hl2
   rw [hxm] at hm2
   refine Wt ?_
   have he1:=hE.e1
   have hok:=meetP_okE (sN:=r.n) (sE:=r.e) (holes:=r.holes) h2.lo.rows ⟨by omega,he1.2⟩ (offE_ok hE hk) hr.n hr.e hr.holes hr.each
   have hlate:=hE.late hla hk r.n r.e r.holes
   have hmeet:=h2.meets hE hk hm2 hr
   obtain⟨p,hp⟩:∃ p,p=meetP A e (offE A e s k) r.n r.e r.holes:=⟨_,rfl⟩
   rw [<-hp] at hlate hok hmeet
   refine ee33 _ a2 hf2 hb2 hs.1 h2.box hmeet fun a4 w5 w6 mc1 cc1 hf4 s5 q17 q18 hm5 hc5 hl6=>?_
   show (part [1,1,1,1,1,1,1,1,1,1,1,1,1,1,0,1,0,0,1,1,0,0,1,1] (codeOf endsF)).wp prog _ a4 w6
   refine Wt ?_
   refine Wt ?_
   refine ee34 _ a4 hf4 fun a5 hf5=>?_
   show (part [1,1,1,1,1,1,1,1,1,1,1,1,1,1,0,1,0,0,1,1,0,0,1,1,0,1] (codeOf endsF)).wp prog _ a5 w6
   obtain⟨hd,hz,f5,f9,f10,f12,f13,f22,f23,f24,f138,f139,f140,f153,-⟩:=hf5
   refine wp_if (o:=.tmp 153) (x:=part [1,1,1,1,1,1,1,1,1,1,1,1,1,1,0,1,0,0,1,1,0,0,1,1,0,1,0] (codeOf endsF)) (y:=part [1,1,1,1,1,1,1,1,1,1,1,1,1,1,0,1,0,0,1,1,0,0,1,1,0,1,1] (codeOf endsF)) (t:=p.2.2 != 1) kr (eval_at f153 rfl) (fun hf0=>by rw [hlate.1] at hf0;cases hf0) fun _=>?_
   refine wp_nop kr ?_
   show (part [1,1,1,1,1,1,1,1,1,1,1,1,1,1,0,1,0,0,1,1,0,0,1,1,1] (codeOf endsF)).wp prog _ a5 w6
   refine ee36 _ a5 ⟨hd,hz,f5,f9,f10,f12,f13,f22,f138,f139,f140,trivial⟩ q17 (mail_size hm5).1 _ (h2.takes hl6 hE.len hm5 hok.1) fun a6 w7 hf6 hr6=>?_
   show (part [1,1,1,1,1,1,1,1,1,1,1,1,1,1,0,1,0,0,1,1,1] (codeOf endsF)).wp prog Q a6 w7
   obtain⟨hd,hz,f5,f9,f10,f12,f13,f22,f138,f139,f140,-⟩:=hf6
   refine ee37 (by omega) _ a6 ⟨hd,hz,f5,f9,f10,f12,f13,f138,f139,f140,trivial⟩ fun a7 hf7=>hQ a7 w7 ⟨⟨i+1,_,hi1,hf7,hr6,hlate.2⟩,?_⟩
   have e2:at_ a7.tmps 140=.int .i64 ((i+1:Nat):Nat):=hf7.2.2.2.2.2.2.2.2.2.1
   unfold mu1
   exact EY24
  ·have e0:part [1,1,1,1,1,1,1,1,1,1,1,1,1,1,0,1,0,0,1,0,1] (codeOf endsF)=Code.exit 2:=by kernel_rfl
   rw [e0]
   exact wp_exit (hexit a1 w l ⟨hd,hz,f5,f9,f10,f12,f13,trivial⟩ hen hla)
 refine wp_blk (x:=part [1,1,1,1,1,1,1,1,1,1,1,1,1,1,0,1,0] (codeOf endsF)) (id:=2) kr ?_
 have el:part [1,1,1,1,1,1,1,1,1,1,1,1,1,1,0,1,0] (codeOf endsF)=Code.loop (part [1,1,1,1,1,1,1,1,1,1,1,1,1,1,0,1,0,0] (codeOf endsF)):=by kernel_rfl
 rw [el]
 refine wp_loop (St2 W B b5 ga gb lb Ya Yb kk A e s oA oc sA sc xs r jA jn jc) (fun a _=>mu1 xs.length 140 a) h fun a2 w2 hI=>?_
 refine round _ ?_ a2 w2 hI ?_
 ·exact fun a' w' l h1 h2 h3=>hQ a' w' l h1 h2 h3
 ·exact fun a' w' hh=>hh
end
end Go.Proofs.Ytaipgdhdfpemcaa
