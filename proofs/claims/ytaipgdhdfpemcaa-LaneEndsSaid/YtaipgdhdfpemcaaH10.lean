/- THE WALKS OF LaneEnds, part 10. -/
import Derived.Test.YtaipgdhdfpemcaaH1
import Derived.Test.YtaipgdhdfpemcaaH7
import Derived.Test.YtaipgdhdfpemcaaH8
import Derived.Test.YtaipgdhdfpemcaaH9
namespace Go.Proofs.Ytaipgdhdfpemcaa
set_option linter.all false
open Go.RowKit Go.Proofs.Try
set_option maxRecDepth 100000
set_option maxHeartbeats 4000000
theorem lastV_row {A:List OpC} (h:Row0 A) {u v:Int} (hv:LastV A.length A u v):u=(A.length:Nat)/\v=epAt A A.length:=by
 rcases hv with ⟨h0,rfl,rfl⟩|⟨m,o,hm,ho,rfl,rfl⟩
 ·rw [h0];exact⟨rfl,rfl⟩
 ·rw [hm,epAt_some ho]
  exact⟨(h.at_ ho).1.trans (by omega),rfl⟩
section
variable {W w:World} {B b5 ga gb lb:Nat} {Ya Yb:Nat->Prop} {kk:Nat} {A B0:List OpC} {e s:Int} {b:List OpC} {ft:Int} {l:LaneC} {oA:O} {oc:Nat} {sA:O} {sc:Nat} {xs:List MsgX} {r:RchC} {jA:O} {jn jc:Nat}
theorem last_led {g:Nat} {Y:Nat->Prop} {k:Nat} (h:LedIs w B g Y k A ft) (hr:Row0 A):Calls prog 30 #[.pointer (some ⟨g,0,none⟩)] w fun x w'=>x=.returned (.agg #[.int .i64 (A.length:Nat),.int .i64 (epAt A A.length)])/\Below w w w':=by
 obtain⟨m1,m2,pA,pn,pc,lA,ln,lc,st,h1,h2,-⟩:=h.open_
 have hl:=h2.len
 have hrl:=hr.len
 rw [<-hl] at h1 h2
 refine (lastLed_any h1 rfl h2 (by omega)).mono ?_
 rintro x w' ⟨⟨u,v,rfl,hv⟩,hb⟩
 obtain⟨rfl,rfl⟩:=lastV_row hr hv
 exact⟨rfl,hb⟩
theorem En.mark (h:En W w B b5 ga gb lb Ya Yb kk A e b ft l oA oc sA sc xs r jA jn jc) (hl:LaneE A e s l A.length A.length):Calls prog 29 #[.pointer (some ⟨lb,0,none⟩)] w fun x w'=>x=.returned (.agg #[.int .i64 (A.length:Nat),.int .i64 (epAt A A.length)])/\Below w w w':=by
 refine (markL_any lb l w h.lane).mono ?_
 rintro x w' ⟨rfl,hb⟩
 exact⟨by rw [hl.mN,hl.mE],hb⟩
theorem En.opsOf (h:En W w B b5 ga gb lb Ya Yb kk A e A e l oA oc sA sc xs r jA jn jc):Calls prog 22 #[.pointer (some ⟨gb,0,none⟩)] w fun x w'=>∃ oA2 oc2,x=.returned (.slice oA2 A.length oc2)/\OpsIs w' Any oA2 A.length oc2 A/\Below w w w':=by
 refine (ops_led h.lo).mono ?_
 rintro x w' ⟨A',c',rfl,ho,hb⟩
 exact⟨A',c',rfl,ho.mono fun _ _ _=>trivial,hb⟩
theorem En.same (h:En W w B b5 ga gb lb Ya Yb kk A e A e l oA oc sA sc xs r jA jn jc) (hE:Ends A B0 e s) {oA2:O} {oc2:Nat} (ho:OpsIs w Any oA2 A.length oc2 A):Calls prog 21 #[.slice oA2 A.length oc2,.slice oA A.length oc] w fun x w'=>x=.returned (.bool true)/\Below w w w':=by
 have hl:=hE.len
 exact sameOps_any w ho h.ops (by omega) fun o ho=>by have:=(hE.row.rows.ok o ho).hs;omega
theorem ez39 (a:Act) (hfr:Fr 170 a [(6,.bool true)]) (hl:Below W W w):(part [1,1,1,1,1,1,1,1,1,1,1,1,1,1,1,1] (codeOf endsF)).wp prog (bodyPost prog endsF (EndsR W)) a w:=by
 have hr:EndsR W (.returned (.bool true)) w:=⟨rfl,hl⟩
 have HR:=J hr
 clear hl hr
 refine gg hfr fun t=>?_
 go_wp2_with fail
 refine bodyPost_ret (results_tmp rfl _ _ _) rfl ?_
 exact HR.out
theorem ends_tail (hE:Ends A B0 e s) (hr:r.Ok) (h:En W w B b5 ga gb lb Ya Yb kk A e b ft l oA oc sA sc xs r jA jn jc) (hn:Near A B0 e s 0 l b ft) (ho:Offs A e s xs) (hx:xs.length<=100) (a:Act) (hfr:Fr 170 a [(5,.pointer (some ⟨b5,0,none⟩)),(9,.pointer (some ⟨ga,0,none⟩)),(10,.pointer (some ⟨gb,0,none⟩)),(12,.slice oA A.length oc),(13,.pointer (some ⟨lb,0,none⟩)),(15,.slice sA xs.length sc)]) :
 (part [1,1,1,1,1,1,1,1,1,1,1,1,1] (codeOf endsF)).wp prog (bodyPost prog endsF (EndsR W)) a w:=by
 obtain⟨hb0,hf0,hl⟩:=hE.done hn
 rw [hb0,hf0] at h
 clear hn hb0 hf0
 refine Wt ?_
 refine Wt ?_
 refine ez28 _ a hfr (fun W1 hb=>(h.below hb).mark hl) (fun W1 hb=>last_led (h.below hb).la hE.row) (fun W1 hb=>last_led (h.below hb).lo hE.row) (fun oA2 oc2 w'=>OpsIs w' Any oA2 A.length oc2 A) (fun W1 hb=>(h.below hb).opsOf) (fun oA2 oc2 W1 hb hM=>(h.below hb).same hE hM) fun a1 w1 hf1 hb1=>?_
 show (part [1,1,1,1,1,1,1,1,1,1,1,1,1,0,1] (codeOf endsF)).wp prog _ a1 w1
 obtain⟨hd,hz,f5,f9,f10,f12,f13,f15,f137,-⟩:=hf1
 refine wp_if (o:=.tmp 137) (x:=part [1,1,1,1,1,1,1,1,1,1,1,1,1,0,1,0] (codeOf endsF)) (y:=part [1,1,1,1,1,1,1,1,1,1,1,1,1,0,1,1] (codeOf endsF)) (t:=false) kr (eval_at f137 rfl) (fun h=>by cases h) fun _=>?_
 refine wp_nop kr ?_
 show (part [1,1,1,1,1,1,1,1,1,1,1,1,1,1] (codeOf endsF)).wp prog _ a1 w1
 have h1:=h.below hb1
 refine Wt ?_
 refine Wt ?_
 refine ez30 _ a1 ⟨hd,hz,f5,f9,f10,f12,f13,f15,trivial⟩ fun a2 hf2=>?_
 show (part [1,1,1,1,1,1,1,1,1,1,1,1,1,1,0,1] (codeOf endsF)).wp prog _ a2 w1
 refine ends_loop2 hE hr (by omega) ho _ a2 ⟨0,l,Nat.zero_le _,hf2,h1,hl⟩ fun a3 w3 l' hf3 h3 hl3=>?_
 show (part [1,1,1,1,1,1,1,1,1,1,1,1,1,1,1] (codeOf endsF)).wp prog _ a3 w3
 refine Wt ?_
 refine ez38 _ a3 hf3 (fun W1 hb=>(h3.below hb).mark hl3) (fun W1 hb=>last_led (h3.below hb).la hE.row) (fun oA2 oc2 w'=>OpsIs w' Any oA2 A.length oc2 A) (fun W1 hb=>(h3.below hb).opsOf) (fun oA2 oc2 W1 hb hM=>(h3.below hb).same hE hM) fun a4 w4 hf4 hb4=>?_
 show (part [1,1,1,1,1,1,1,1,1,1,1,1,1,1,1,1] (codeOf endsF)).wp prog _ a4 w4
 exact ez39 a4 hf4 (h3.low.trans (hb4.mono h3.low.size))
theorem ends_mid {s:Nat} (hs:s<2) (hE:Ends A B0 e s) (hr:r.Ok) (hla:LedIs w B ga Ya kk A e) (hlo:LedIs w B gb Yb kk B0 ft) (hf:0<=ft/\ft<e) (hdis:∀ q,Ya q->¬ Yb q) (hbox:Blk w b5 32 #[.int .i64 r.n,.int .i64 r.e,.slice jA jn jc]) (hb5:b5<B) (hj:IntIs w (fun q=>q<B) jA jn jc r.holes) (low:Below W W w) (hB:W.heap.size<=B/\B<=w) (hk:kk<=20000)
 (a:Act) (hfr:Fr 170 a [(5,.pointer (some ⟨b5,0,none⟩)),(8,.int .i64 (s:Nat)),(9,.pointer (some ⟨ga,0,none⟩)),(10,.pointer (some ⟨gb,0,none⟩)),(11,.int .i64 e)]) :
 (part [1,1,1,1,1,1,1,1] (codeOf endsF)).wp prog (bodyPost prog endsF (EndsR W)) a w:=by
 have hlen:=hE.len
 have he1:=hE.e1
 refine Wt ?_
 refine ez11 (n:=A.length) _ a hfr (fun oA oc w'=>OpsIs w' (From w.heap.size) oA A.length oc A/\Below w w w') (by
  refine (ops_led hla).mono ?_
  rintro x w' ⟨A',c',rfl,ho,hb⟩
  exact⟨A',c',rfl,ho,hb⟩) fun a1 w1 oA oc hf1 hr1=>?_
 show (part [1,1,1,1,1,1,1,1,1] (codeOf endsF)).wp prog _ a1 w1
 obtain⟨ho1,hb1⟩:=hr1
 refine Wt ?_
 refine ez12 (lb:=w1.heap.size) _ a1 hf1 (fun w'=>w'=w1.alloc (.cells (laneC 0 0 0 0 none 0 0 e s A.length) 127)) (newL_ok e s A.length w1 he1 (by omega) (by omega)) fun a2 w2 hf2 hr2=>?_
 show (part [1,1,1,1,1,1,1,1,1,1] (codeOf endsF)).wp prog _ a2 w2
 have hb2:Below w1 w1 w2:=by rw [hr2];exact (Below.refl _ _).alloc (Nat.le_refl _) _
 have hlb:Blk w2 w1 127 (laneC 0 0 0 0 none 0 0 e s A.length):=by rw [hr2];exact Blk.new _ _ _
 clear hr2
 have s1:=hb1.size
 have s2:=hb2.size
 have hb:=hb1.trans (hb2.mono s1)
 have hYa:=hla.1
 have hYb:=hlo.1
 have hbx:=hbox.lt
 have hlane:LaneIs w2 (Fs Yb w1.heap.size none) w1.heap.size ⟨0,0,0,0,[],e,s,A.length⟩:=⟨none,0,0,hlb,⟨Rs.nil_ _ _ _ _,Nat.le_refl _,Nat.zero_le _⟩⟩
 have hen:En W w2 B b5 ga gb w1.heap.size Ya Yb kk A e B0 ft ⟨0,0,0,0,[],e,s,A.length⟩ oA oc none 0 [] r jA jn jc:=by
  refine⟨low.trans (hb.mono low.size),⟨hB.1,by omega⟩,hbox.below hb hbx,(hj.below hb).mono fun q _ hq=>⟨fun hy=>by have:=(hYb q hy).1;omega,by omega,fun e=>by simp [ob] at e⟩,hla.below hb,hlo.below hb,⟨fun hy=>by have:=(hYb _ hy).1;omega,by omega,fun e=>by simp [ob] at e⟩,fun q hq=>⟨hdis q hq,by have:=(hYa q hq).2;omega,fun e=>by simp [ob] at e⟩,?_,hlane,⟨by omega,fun hy=>by have:=(hYb _ hy).2;omega,fun e=>by simp [ob] at e⟩,MailsIs.nil_ _ _ _⟩
  exact ((ho1.mono (S':=fun q=>From w.heap.size q/\q<w1) fun q hq y=>⟨y,hq⟩).below hb2).mono fun q _ y=>⟨fun hy=>by have:=(hYb q hy).2;have:w.heap.size<=q:=y.1;omega,by have:=y.2;omega,fun e=>by simp [ob] at e⟩
 have hLE:LaneE A e s ⟨0,0,0,0,[],e,s,A.length⟩ A.length 0:=⟨rfl,rfl,rfl,Nat.le_refl _,rfl,rfl,Nat.zero_le _⟩
 refine Wt ?_
 refine Wt ?_
 refine ez13 _ a2 hf2 fun a3 hf3=>?_
 show (part [1,1,1,1,1,1,1,1,1,1,0,1] (codeOf endsF)).wp prog _ a3 w2
 obtain⟨hd,hz,f5,f9,f10,f12,f13,f80,-⟩:=hf3
 refine wp_if (o:=.tmp 80) (x:=part [1,1,1,1,1,1,1,1,1,1,0,1,0] (codeOf endsF)) (y:=part [1,1,1,1,1,1,1,1,1,1,0,1,1] (codeOf endsF)) (t:=false) kr (eval_at f80 rfl) (fun h=>by cases h) fun _=>?_
 refine wp_nop kr ?_
 show (part [1,1,1,1,1,1,1,1,1,1,1] (codeOf endsF)).wp prog _ a3 w2
 refine Wt ?_
 refine ez15 _ a3 ⟨hd,hz,f5,f9,f10,f12,f13,trivial⟩ fun a4 hf4=>?_
 show (part [1,1,1,1,1,1,1,1,1,1,1,1] (codeOf endsF)).wp prog _ a4 w2
 refine Wt ?_
 refine Wt ?_
 refine ez16 _ a4 hf4 hlen fun a5 hf5=>?_
 show (part [1,1,1,1,1,1,1,1,1,1,1,1,0,1] (codeOf endsF)).wp prog _ a5 w2
 obtain⟨hd,hz,f5,f9,f10,f12,f13,f15,f86,f87,-⟩:=hf5
 refine ends_loop1 (N:=38+2*A.length / 8) hE hr (by omega) _ a5 ⟨0,Yb,B0,ft,_,none,0,[],Nat.zero_le _,⟨hd,hz,f5,f9,f10,f12,f13,f15,f86,f87,trivial⟩,⟨kk,by omega,hen⟩,rfl,by rw [Nat.sub_zero];exact hE.start hf.2 hLE,⟨hf.1,by omega⟩,fun x hx=>(by cases hx)⟩ fun a6 w6 Yb' b' ft' l' sA' sc' xs' kk' hf6 hk6 h6 hn6 ho6 hx6=>?_
 show (part [1,1,1,1,1,1,1,1,1,1,1,1,1] (codeOf endsF)).wp prog _ a6 w6
 exact ends_tail hE hr h6 hn6 ho6 hx6 a6 hf6
theorem ends_town {tb:Nat} {g:Nat->Nat} {site:Int} (ht:Townly w tb g 16000 200) (htb:b5<tb/\W.heap.size<=tb) (hr:r.Ok) (hbox:Blk w b5 32 #[.int .i64 r.n,.int .i64 r.e,.slice jA jn jc]) (hj:IntIs w (fun q=>q<tb) jA jn jc r.holes) (low:Below W W w)
 (a:Act) (hfr:Fr 170 a [(1,.int .i64 site),(5,.pointer (some ⟨b5,0,none⟩)),(7,.pointer (some ⟨tb,0,none⟩))]) :
 (part [1,1,1,1] (codeOf endsF)).wp prog (bodyPost prog endsF (EndsR W)) a w:=by
 obtain⟨Y,X,t,own,G,hT,hI,hT16,-⟩:=ht
 obtain⟨s,hs,r1,r2⟩:=rem_place site 2 (by omega)
 obtain⟨q,hq⟩:∃ q,q=1-s:=⟨_,rfl⟩
 have hq2:q<2:=by omega
 have hne:q≠s:=by omega
 have htl:=hT.tl
 obtain⟨sA,sn,sc,tA,tc,ss,hb,-⟩:=hT.row
 have hcs:w.cell? ⟨tb,s,none⟩=some (.pointer (some ⟨g s,0,none⟩)):=by
  have:=hb.cell s
  rcases s with _|_|s
  ·exact this
  ·exact this
  ·omega
 have hcq:w.cell? ⟨tb,q,none⟩=some (.pointer (some ⟨g q,0,none⟩)):=by
  have:=hb.cell q
  rcases q with _|_|q
  ·exact this
  ·exact this
  ·omega
 refine Wt ?_
 refine ez6 _ a hfr r1 r2 fun a1 hf1=>?_
 show (part [1,1,1,1,1] (codeOf endsF)).wp prog _ a1 w
 refine Wt ?_
 refine ez7 _ a1 hf1 hs hq2 (by rw [show (1:Int)-(s:Nat)=(q:Nat) by omega];exact IntWalk.i64_in _ (by omega)) hcs hcq fun a2 hf2=>?_
 show (part [1,1,1,1,1,1] (codeOf endsF)).wp prog _ a2 w.drew
 have hb0:Below w w w.drew:=by exact (Below.refl _ _).drew
 obtain⟨w1,hw1⟩:∃ w1,w1=w.drew:=⟨_,rfl⟩
 rw [<-hw1] at hb0 ⊢
 clear hw1
 have hT1:=hT.below hb0
 have hbox1:=hbox.below hb0 hbox.lt
 have hj1:=hj.below hb0
 have low1:=low.trans (hb0.mono low.size)
 have s0:=hb0.size
 have hfs:=hI.ft s hs
 have hfq:=hI.ft q hq2
 obtain⟨e,he⟩:∃ e,e=max (t.f s) (t.f q)+1:=⟨_,rfl⟩
 refine Wt ?_
 refine ez8 (e:=e) _ a2 hf2 (fence_led (hT1.led s hs)) (fence_led (hT1.led q hq2)) (by rw [he];exact IntWalk.i64_in _ (by omega)) fun a3 hf3=>?_
 show (part [1,1,1,1,1,1,1] (codeOf endsF)).wp prog _ a3 w1
 refine Wt ?_
 refine Wt ?_
 by_cases h16:16<e
 ·refine ez9a _ a3 hf3 (decide_eq_true h16) fun a4 hf4=>?_
  show (part [1,1,1,1,1,1,1,0,1] (codeOf endsF)).wp prog _ a4 w1
  obtain⟨hd,hz,f68,-⟩:=hf4
  refine wp_if (o:=.tmp 68) (x:=part [1,1,1,1,1,1,1,0,1,0] (codeOf endsF)) (y:=part [1,1,1,1,1,1,1,0,1,1] (codeOf endsF)) (t:=true) kr (eval_at f68 rfl) (fun _=>?_) fun h=>by cases h
  exact ez10 _ a4 ⟨hd,hz⟩ low1 fun a' w' h=>h
 ·have hrc : (⟨4, e, s, opZ, 0, 0, [], 0⟩ : CmdC).Ok := by
   have z:=z64
   exact⟨show I64 4 from i64_le (by omega) (by omega),show I64 e from i64_le (by omega) (by omega),show I64 (s:Int) from i64_le (by omega) (by omega),opz_ok',z,z,Nat.zero_le _,fun _ h=>(by cases h),z⟩
  have hcB:cmdB ⟨4,e,s,opZ,0,0,[],0⟩=true:=by
   have k1:reignB e s=true:=by
    unfold reignB
    rw [decide_eq_true (show 1<=e by omega),decide_eq_true (show e<=16 by omega),decide_eq_true (show 0<=(s:Int) by omega),decide_eq_true (show (s:Int)<2 by omega)]
    rfl
   unfold cmdB
   rw [if_neg (show ¬ (4:Int)=0 by decide),if_neg (show ¬ (4:Int)=1 by decide),if_neg (show ¬ (4:Int)=2 by decide),if_neg (show ¬ (4:Int)=3 by decide),if_pos (rfl:(4:Int)=4),k1]
   rfl
  have hcm:CmdIs w1 Any (cmd0 4 e s 0 0 none 0 0) ⟨4,e,s,opZ,0,0,[],0⟩:=⟨none,0,0,none,0,0,rfl,⟨Rs.nil_ _ _ _ _,Nat.le_refl _,Nat.zero_le _⟩,OpsIs.nil_ _ _ _ _ (Nat.zero_le _)⟩
  refine ez9b _ a3 hf3 (decide_eq_false h16) (fun er w'=>(er=0->t.f s<e/\(t.L s).length<80)/\Acted (tb+1) (g s) (Y s) (16000+80) (stepC (t.L s) (t.f s) ⟨4,e,s,opZ,0,0,[],0⟩).1 (stepC (t.L s) (t.f s) ⟨4,e,s,opZ,0,0,[],0⟩).2 w1 w') (by
   refine (apply_reign _ _ (hT1.led s hs) (by omega) hcm hrc (Nat.zero_le _) rfl).mono ?_
   rintro x w' ⟨⟨er,dn,ep,rfl,h1⟩,h2⟩
   exact⟨er,dn,ep,rfl,h1,h2⟩) fun a4 w4 er hf4 hr4=>?_
  show (part [1,1,1,1,1,1,1,0,1] (codeOf endsF)).wp prog _ a4 w4
  obtain⟨hz4,hac⟩:=hr4
  obtain⟨hd,hz,f5,f8,f9,f10,f11,f68,-⟩:=hf4
  have low4:=low1.trans (hac.2.2.mono (by omega))
  refine wp_if (o:=.tmp 68) (x:=part [1,1,1,1,1,1,1,0,1,0] (codeOf endsF)) (y:=part [1,1,1,1,1,1,1,0,1,1] (codeOf endsF)) (t:=er != 0) kr (eval_at f68 rfl) (fun _=>?_) fun hok=>?_
  ·exact ez10 _ a4 ⟨hd,hz⟩ low4 fun a' w' h=>h
  ·have er0:er=0:=by simpa using hok
   obtain⟨hlt,hl80⟩:=hz4 er0
   refine wp_nop kr ?_
   show (part [1,1,1,1,1,1,1,1] (codeOf endsF)).wp prog _ a4 w4
   have hst:stepC (t.L s) (t.f s) ⟨4,e,s,opZ,0,0,[],0⟩=(t.L s++[newOp (t.L s) reignOp e s],e):=by
    unfold stepC
    rw [if_neg (by rw [hcB];decide),if_neg (show ¬ (4:Int)=1 by decide),if_neg (show ¬ (4:Int)=3 by decide),if_pos (rfl:(4:Int)=4),if_neg (show ¬ e<=t.f s by omega),if_neg (by omega)]
   have hT4:=hT1.acted hs hac (Nat.le_add_right _ _)
   rw [hst] at hT4 hac
   have hE:Ends (t.L s++[newOp (t.L s) reignOp e s]) (t.L q) e s:=Ends.of_ hI hs hq2 (by omega) (by omega) (by omega) hl80 (newOp_reign hcB rfl hl80)
   have hlo:=hT4.led q hq2
   rw [Tn.set_L' _ hne,Tn.set_f' _ hne] at hlo
   simp only [if_neg hne] at hlo
   have hd4:∀ y,New (Y s) w1 w4 y->¬ Y q y:=fun y hy=>by
    have:=hT4.dis s q hs hq2 (Ne.symm hne) y
    simp only [if_neg hne,if_true] at this
    exact this hy
   have s4:=hac.2.2.size
   have hB4:Below w1 w1 w1:=Below.refl _ _
   have hk4:=hac.2.1
   have hYs:=(hT1.led s hs).1
   have hbox4:Blk w4 b5 32 #[.int .i64 r.n,.int .i64 r.e,.slice jA jn jc]:=(hac.2.2.block b5 (by omega)).trans hbox1
   have hj4:IntIs w4 (fun q=>q<tb+1) jA jn jc r.holes:=((hj1.mono (S':=fun q=>q<tb) fun q _ hq=>hq).kept ⟨s4,fun b hb _=>hac.2.2.block b (by have:b<tb:=hb;omega)⟩).mono fun q _ hq=>by have:q<tb:=hq;show q<tb+1;omega
   exact ends_mid hs hE hr hac.1 hlo ⟨hfq.1,by omega⟩ hd4 hbox4 (by omega) hj4 low4 ⟨by omega,by omega⟩ (by omega) a4 ⟨hd,hz,f5,f8,f9,f10,f11,trivial⟩
theorem ends_head {n c:Nat} {ts:List TurnX} {site:Int} {tA:O} (hm:TurnsIs W Any tA n ts) (hj:IntIs W Any jA jn jc r.holes) (hr:r.Ok) (hbox:Blk w b5 32 #[.int .i64 r.n,.int .i64 r.e,.slice jA jn jc]) (low:Below W W w)
 (a:Act) (hfr:Fr 170 a [(0,.slice tA n c),(1,.int .i64 site),(5,.pointer (some ⟨b5,0,none⟩))]) :
 (part [1] (codeOf endsF)).wp prog (bodyPost prog endsF (EndsR W)) a w:=by
 have hjW:IntIs W (fun q=>q<W) jA jn jc r.holes:=hj.mono fun q hq _=>hq
 refine Wt ?_
 refine Wt ?_
 refine ez1 _ a hfr (awake_any w) fun a1 w1 hf1 hb1=>?_
 show (part [1,0,1] (codeOf endsF)).wp prog _ a1 w1
 obtain⟨hd,hz,f0,f1,f5,f26,-⟩:=hf1
 refine wp_if (o:=.tmp 26) (x:=part [1,0,1,0] (codeOf endsF)) (y:=part [1,0,1,1] (codeOf endsF)) (t:=false) kr (eval_at f26 rfl) (fun h=>by cases h) fun _=>?_
 refine wp_nop kr ?_
 show (part [1,1] (codeOf endsF)).wp prog _ a1 w1
 have low1:=low.trans (hb1.mono low.size)
 have s1:=hb1.size
 have sl:=low.size
 have hbx:=hbox.lt
 refine Wt ?_
 refine ez3 _ a1 ⟨hd,hz,f0,f1,f5,trivial⟩ (fun x w'=>TwoR w1 (.returned x) w') (by
  refine (two_any (hm.below low1)).mono ?_
  rintro x w' ⟨h1,h2⟩
  rcases h2 with rfl|⟨tb,g,rfl,h3⟩
  ·exact⟨_,rfl,h1,.inl rfl⟩
  ·exact⟨_,rfl,h1,.inr ⟨tb,g,rfl,h3⟩⟩) fun a2 w2 x hf2 hr2=>?_
 show (part [1,1,1] (codeOf endsF)).wp prog _ a2 w2
 obtain⟨hb2,hr2⟩:=hr2
 have low2:=low1.trans (hb2.mono low1.size)
 refine Wt ?_
 refine Wt ?_
 rcases hr2 with hx|⟨tb,g,hx,htb,ht⟩
 ·injection hx with hx
  subst hx
  refine ez4a _ a2 hf2 fun a3 hf3=>?_
  show (part [1,1,1,0,1] (codeOf endsF)).wp prog _ a3 w2
  obtain⟨hd,hz,f36,-⟩:=hf3
  refine wp_if (o:=.tmp 36) (x:=part [1,1,1,0,1,0] (codeOf endsF)) (y:=part [1,1,1,0,1,1] (codeOf endsF)) (t:=true) kr (eval_at f36 rfl) (fun _=>?_) fun h=>by cases h
  exact ez5 _ a3 ⟨hd,hz⟩ low2 fun a' w' h=>h
 ·injection hx with hx
  subst hx
  have hbox2:=hbox.below (hb1.trans (hb2.mono s1)) hbx
  refine ez4b _ a2 hf2 hbox2 fun a3 hf3=>?_
  show (part [1,1,1,0,1] (codeOf endsF)).wp prog _ a3 w2
  obtain⟨hd,hz,f1,f5,f7,f36,-⟩:=hf3
  refine wp_if (o:=.tmp 36) (x:=part [1,1,1,0,1,0] (codeOf endsF)) (y:=part [1,1,1,0,1,1] (codeOf endsF)) (t:=decide ((200:Int)<(jn:Nat))) kr (eval_at f36 rfl) (fun _=>?_) fun _=>?_
  ·exact ez5 _ a3 ⟨hd,hz⟩ low2 fun a' w' h=>h
  ·refine wp_nop kr ?_
   show (part [1,1,1,1] (codeOf endsF)).wp prog _ a3 w2
   exact ends_town ht ⟨by omega,by omega⟩ hr hbox2 ((hjW.below low2).mono fun q _ hq=>by have:q<W:=hq;show q<tb;omega) low2 a3 ⟨hd,hz,f1,f5,f7,trivial⟩
end
theorem laneEnds_walk (W:World) (tA:O) (n c:Nat) (ts:List TurnX) (hm:TurnsIs W Any tA n ts) (_:n<=c) (_:c*128<=140737488351232) (_:tA=none->c=0) (site:Int) (_:I64 site) (cs:Array Value) (r:RchC) (hi:RchIs W Any cs r) (hr:r.Ok) :
 Calls prog 4 #[.slice tA n c,.int .i64 site,.agg cs] W fun x w'=>x=.returned (.bool true)/\Below W W w':=by
 obtain⟨jA,jn,jc,rfl,hj⟩:=hi
 have rest:∀ (a:Act) (w:World),Fr 170 a [(0,.slice tA n c),(1,.int .i64 site),(5,.pointer (some ⟨W.heap.size,0,none⟩))]->Blk w W 32 #[.int .i64 r.n,.int .i64 r.e,.slice jA jn jc]->Below W W w->(part [1] (codeOf endsF)).wp prog (bodyPost prog endsF (EndsR W)) a w:=
  fun a w hfr hb hl=>ends_head hm hj hr hb hl a hfr
 have HK:=J (Blk.new W 32 #[.int .i64 r.n,.int .i64 r.e,.slice jA jn jc])
 have HB:=J ((Below.refl W.heap.size W).alloc (Nat.le_refl _) (.cells #[.int .i64 r.n,.int .i64 r.e,.slice jA jn jc] 32))
 have HR:=J rest
 clear rest hm hj
 go_enter func4,ntmps4
 conv=>arg 2;arg 2;change part [1] (codeOf endsF)
 go_wp2_with fail
 exact HR.out _ _ ff HK.out HB.out
end Go.Proofs.Ytaipgdhdfpemcaa
