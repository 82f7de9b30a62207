/- THE WALKS OF THE LANE, part 41. -/
import Derived.Test.YtaipgdhdfpemcaaG40
namespace Go.Proofs.Ytaipgdhdfpemcaa
set_option linter.all false
open Go.RowKit Go.Proofs.Try
set_option maxRecDepth 100000
set_option maxHeartbeats 4000000
section
variable {cs:Array Value} {fence hE hS sE sN:Int} {holes:List Int} {os:List OpC} {m:MailC} {b11 b4 b5 b6 b7 b9 c ec en g hc hn jc jn n oc on pc pn:Nat} {S Sj Sm Sx:Nat->Prop} {A eA hA jA oA pA:O} {W:World}
section
variable {w:World}
theorem MailIs.any (h:MailIs w S cs m):MailIs w Any cs m:=h.mono fun _ _ _=>trivial
section
variable (R:Ending->World->Prop) {Q:Z} (hret:∀ a w,bodyPost prog meetF R .ret a w->Q .ret a w) (a:Act) (hfr:Fr 128 a [(4,b4),(5,b5),(6,b6),(7,b7),(11,b11)]) (h:Mt W w b4 b5 b6 b7 m (mailC m.kind m.term m.index m.prev m.commit m.good eA en ec m.data hA hn hc m.epoch m.site m.atN m.atE m.whN m.whE oA on oc pA pn pc) sN sE jA jn jc holes (mailC 10 0 0 0 0 false none 0 0 ⟨#[]⟩ none 0 0 m.epoch 0 0 0 0 0 none 0 0 none 0 0)) (h11:Blk w b11 28 #[.slice A n c]) (ho:OpsIs w Sx A n c os) (hz:n<=4294967296) (hmz:m.ops.length<=4294967296) (hok:m.Ok) (hsN:I64 sN) (hsE:I64 sE) (hjz:holes.length*8<=140737488351232) (hj:∀ z∈holes,I64 z) (h11n:b11≠b6) (hSx:∀ b,Sx b->b≠b6)
include R hret a hfr h h11 ho hz hmz hok hsN hsE hjz hj h11n hSx
theorem mgood (hR:∀ mc' w',MailIs w' (From W.heap.size) mc' (if (hasB os sN sE&&(ansM m.epoch true (endC m.atN m.atE m.ops).1 (endC m.atN m.atE m.ops).2 sN sE holes).right10)=true then ansM m.epoch true (endC m.atN m.atE m.ops).1 (endC m.atN m.atE m.ops).2 sN sE holes else ansM m.epoch true (endC m.atN m.atE m.ops).1 (endC m.atN m.atE m.ops).2 0 0 [])->Below W W w'->R (.returned (.tuple #[.agg mc',.agg noCmd,.int .i64 1])) w') :
 (part [1,1,1,1,1,1,0,1,0,1,1,0] (codeOf meetF)).wp prog Q a w:=by
 have hlo:=h.lo
 have hjl:=h.ints.len
 have h11lt:=h11.lt
 refine Wt ?_
 refine mt13 hmz _ a hfr h fun a1 w1 hf1 h1 hk1=>?_
 show (part [1,1,1,1,1,1,0,1,0,1,1,0,1] (codeOf meetF)).wp prog Q a1 w1
 have h11a:b11≠b6:=h11n
 have k11:=h11.kept_ hk1 h11a
 have ho1:=ho.kept (hk1.mono fun b hb hs=>hSx b hs)
 refine Wt ?_
 refine mt14 _ a1 hf1 h1 fun a2 w2 hf2 h12 hb2=>?_
 show (part [1,1,1,1,1,1,0,1,0,1,1,0,1,1] (codeOf meetF)).wp prog Q a2 w2
 have h2:=h1.below hb2
 have hs7:=h1.k7.lt
 have k11:=k11.below hb2 k11.lt
 have ho2:=ho1.below hb2
 refine Wt ?_
 refine mreach _ a2 hf2 h2.k5 h12 h2.ints (by omega) (by omega) fun a3 w3 hf3 ⟨⟨A3,c3,h12',hi3⟩,hb3,hk3⟩=>?_
 show (part [1,1,1,1,1,1,0,1,0,1,1,0,1,1,1] (codeOf meetF)).wp prog Q a3 w3
 have hb3':Below w1 w1 w3:=hb2.trans hb3
 have h3:=h1.below hb3'
 have hx:b11<w1:=by have:=h11.kept_ hk1 h11a;exact this.lt
 have k11':Blk w3 b11 28 #[.slice A n c]:=(h11.kept_ hk1 h11a).below hb3' hx
 have ho3:=ho1.below hb3'
 have hen:=endC_ok hok.atN hok.atE hok.op
 have hy:=ansM_ok (good:=true) hok.epoch hen.1 hen.2 hsN hsE hjz hj
 refine Wt ?_
 refine Wt ?_
 refine mt16 (y:=ansM m.epoch true (endC m.atN m.atE m.ops).1 (endC m.atN m.atE m.ops).2 sN sE holes) _ a3 hf3 h3 k11' ho3 hz h12' (ansM_is m.epoch true (endC m.atN m.atE m.ops).1 (endC m.atN m.atE m.ops).2 sN sE hi3) rfl hy fun a4 w4 hf4 hb4=>?_
 show (part [1,1,1,1,1,1,0,1,0,1,1,0,1,1,1,0,1] (codeOf meetF)).wp prog _ a4 w4
 have h4:=h3.below hb4
 have h12'':=h12'.below hb4 h12'.lt
 have hi4:=hi3.below hb4
 obtain⟨hd4,hs4,f4,f5,f6,f7,f11,f12,f109,-⟩:=hf4
 refine wp_if (o:=.tmp 109) (x:=part [1,1,1,1,1,1,0,1,0,1,1,0,1,1,1,0,1,0] (codeOf meetF)) (y:=part [1,1,1,1,1,1,0,1,0,1,1,0,1,1,1,0,1,1] (codeOf meetF)) (t:=hasB os sN sE&&(ansM m.epoch true (endC m.atN m.atE m.ops).1 (endC m.atN m.atE m.ops).2 sN sE holes).right10) kr (eval_at f109 rfl) ?_ ?_
 ·intro ht
  rw [if_pos ht] at hR
  refine mt17 _ a4 ⟨hd4,hs4,f4,f5,f6,f7,f11,f12,trivial⟩ h4 h12'' fun a5 w5 hf5 h5 hk5=>?_
  show (part [1,1,1,1,1,1,0,1,0,1,1,0,1,1,1,1] (codeOf meetF)).wp prog Q a5 w5
  obtain⟨hd5,hs5,g4,g5,g6,g7,g11,-⟩:=hf5
  refine mret18 R hret W.heap.size W a5 w5 b6 b7 ⟨hd5,hs5,g6,g7,trivial⟩ h5.k6 h5.k7 (by omega) (by omega) (by omega) h5.bel fun w6 hb6 hk6=>?_
  refine hR _ _ (ansM_is _ _ _ _ _ _ (((hi4.kept (hk5.mono fun b hb hs=>?_)).kept (hk6.mono fun b hb hs=>?_)).mono fun q _ hq=>(show W.heap.size<=q from by have:w2.heap.size<=q:=hq;have:=h2.bel.size;omega))) hb6
  ·have:w2.heap.size<=b:=hs
   have:=h2.k6.lt
   show b≠b6
   omega
  ·have:w2.heap.size<=b:=hs
   have:=h2.k6.lt
   have:=h2.k7.lt
   show b≠b6/\b≠b7
   omega
 ·intro ht
  rw [if_neg (by rw [ht];decide)] at hR
  refine wp_nop kr ?_
  show (part [1,1,1,1,1,1,0,1,0,1,1,0,1,1,1,1] (codeOf meetF)).wp prog Q a4 w4
  refine mret18 R hret W.heap.size W a4 w4 b6 b7 ⟨hd4,hs4,f6,f7,trivial⟩ h4.k6 h4.k7 (by omega) (by omega) (by omega) h4.bel fun w6 hb6 hk6=>?_
  exact hR _ _ (ansM_is _ _ _ _ _ _ (ints_nil _ _)) hb6
theorem mequal (hno:hasB os m.atN m.atE=false->∀ mc' w',MailIs w' (From W.heap.size) mc' (ansM m.epoch false (Seam.hintN (os.map (·.epoch)) m.atN m.atE) (Seam.ep (os.map (·.epoch)) (Seam.hintN (os.map (·.epoch)) m.atN m.atE)) 0 0 [])->Below W W w'->R (.returned (.tuple #[.agg mc',.agg noCmd,.int .i64 1])) w') (hall:hasB os m.atN m.atE=true->(m.ops.all fun o=>hasB os o.n o.epoch)=true->∀ mc' w',MailIs w' (From W.heap.size) mc' (if (hasB os sN sE&&(ansM m.epoch true (endC m.atN m.atE m.ops).1 (endC m.atN m.atE m.ops).2 sN sE holes).right10)=true then ansM m.epoch true (endC m.atN m.atE m.ops).1 (endC m.atN m.atE m.ops).2 sN sE holes else ansM m.epoch true (endC m.atN m.atE m.ops).1 (endC m.atN m.atE m.ops).2 0 0 [])->Below W W w'->R (.returned (.tuple #[.agg mc',.agg noCmd,.int .i64 1])) w') (hgo:hasB os m.atN m.atE=true->(m.ops.all fun o=>hasB os o.n o.epoch)=false->∀ a' w',Fr 128 a' [(4,b4),(5,b5),(6,b6),(7,b7),(11,b11)]->Mt W w' b4 b5 b6 b7 m (mailC m.kind m.term m.index m.prev m.commit m.good eA en ec m.data hA hn hc m.epoch m.site m.atN m.atE m.whN m.whE oA on oc pA pn pc) sN sE jA jn jc holes (mailC 10 0 0 0 0 false none 0 0 ⟨#[]⟩ none 0 0 m.epoch 0 0 0 0 0 none 0 0 none 0 0)->Q .normal a' w') :
 (part [1,1,1,1,1,1,0,1,0] (codeOf meetF)).wp prog Q a w:=by
 have hlo:=h.lo
 refine Wt ?_
 refine Wt ?_
 refine mt9 _ a hfr h h11 ho hz fun a1 w1 hf1 hb1=>?_
 show (part [1,1,1,1,1,1,0,1,0,0,1] (codeOf meetF)).wp prog _ a1 w1
 have h1:=h.below hb1
 have k11:=h11.below hb1 h11.lt
 have ho1:=ho.below hb1
 obtain⟨hd1,hs1,f4,f5,f6,f7,f11,f67,-⟩:=hf1
 refine wp_if (o:=.tmp 67) (x:=part [1,1,1,1,1,1,0,1,0,0,1,0] (codeOf meetF)) (y:=part [1,1,1,1,1,1,0,1,0,0,1,1] (codeOf meetF)) (t:=!(hasB os m.atN m.atE)) kr (eval_at f67 rfl) ?_ ?_
 ·intro ht
  have ht':hasB os m.atN m.atE=false:=by rw [Bool.not_eq_true'] at ht;exact ht
  refine Wt ?_
  refine mhint _ a1 ⟨hd1,hs1,f4,f5,f6,f7,f11,trivial⟩ h1.k4 h1.k6 k11 ho1 hz hok.atN (by omega) h11n fun a2 w2 hf2 ⟨h2,hb2,hk2⟩=>?_
  show (part [1,1,1,1,1,1,0,1,0,0,1,0,1] (codeOf meetF)).wp prog _ a2 w2
  obtain⟨hd2,hs2,g4,g5,g6,g7,g11,-⟩:=hf2
  have h7:=h1.k7.kept_ hk2 (by show b7≠b6;omega)
  refine mret11 R (by exact fun a w h=>hret a w h) W.heap.size W a2 w2 b6 b7 ⟨hd2,hs2,g6,g7,trivial⟩ h2 h7 (by omega) (by omega) (by omega) (h1.bel.trans (hb2.mono (by omega))) fun w3 hb3 hk3=>?_
  exact hno ht' _ _ (ansM_is _ _ _ _ _ _ (ints_nil _ _)) hb3
 ·intro ht
  have ht':hasB os m.atN m.atE=true:=by simpa using ht
  refine wp_nop kr ?_
  show (part [1,1,1,1,1,1,0,1,0,1] (codeOf meetF)).wp prog _ a1 w1
  refine Wt ?_
  refine mt12 hmz _ a1 ⟨hd1,hs1,f4,f5,f6,f7,f11,trivial⟩ h1 k11 ho1 hz fun a2 w2 hf2 hb2=>?_
  show (part [1,1,1,1,1,1,0,1,0,1,1] (codeOf meetF)).wp prog _ a2 w2
  have h2:=h1.below hb2
  have k11:=k11.below hb2 k11.lt
  have ho2:=ho1.below hb2
  obtain⟨hd2,hs2,g4,g5,g6,g7,g11,g84,-⟩:=hf2
  refine wp_if (o:=.tmp 84) (x:=part [1,1,1,1,1,1,0,1,0,1,1,0] (codeOf meetF)) (y:=part [1,1,1,1,1,1,0,1,0,1,1,1] (codeOf meetF)) (t:=m.ops.all fun o=>hasB os o.n o.epoch) kr (eval_at g84 rfl) ?_ ?_
  ·intro hx
   exact mgood R hret a2 ⟨hd2,hs2,g4,g5,g6,g7,g11,trivial⟩ h2 k11 ho2 hz hmz hok hsN hsE hjz hj h11n hSx (hall ht' hx)
  ·intro hx
   refine wp_nop kr ?_
   exact hgo ht' hx a2 w2 ⟨hd2,hs2,g4,g5,g6,g7,g11,trivial⟩ h2
end
theorem mt2 (hmz:m.ops.length<=4294967296) (hok:m.Ok) (Q:Z) (a:Act) (hfr:Fr 128 a [(0,g),(4,b4),(5,b5),(6,b6),(7,b7),(9,b9)]) (h:Mt W w b4 b5 b6 b7 m (mailC m.kind m.term m.index m.prev m.commit m.good eA en ec m.data hA hn hc m.epoch m.site m.atN m.atE m.whN m.whE oA on oc pA pn pc) sN sE jA jn jc holes noMail) (h9:Blk w b9 93 #[hE,hS]) (hQ:∀ a' w',Fr 128 a' [(0,g),(4,b4),(5,b5),(6,b6),(7,b7),(9,b9),(40,(!(decide ((m.kind=9/\m.right9=true)/\¬ (m.epoch=hE/\m.site≠hS)))))]->Below w w w'->Q .normal a' w') :
 (part [1,1,0,0] (codeOf meetF)).wp prog Q a w:=by
 obtain⟨t,ht⟩:∃ t,t = !(decide ((m.kind=9/\m.right9=true)/\¬ (m.epoch=hE/\m.site≠hS))):=⟨_,rfl⟩
 rw [<-ht] at hQ
 have c0:=h.k4.c1 0
 obtain⟨HT,HQ,HM,HK9,HZ,HOK⟩:=J6 ht hQ h h9 hmz hok
 clear hQ h h9 ht hmz hok
 refine gg hfr fun t=>?_
 by_cases hk:m.kind=9
 ·have d0:(m.kind != 9)=false:=by simp [hk]
  obtain⟨c1,c2,c3,c4,c5,c6,c7,c8,c9,c10,c11,c12,c13,c14,c15,c16⟩:=HM.out.k4.cs 1 16
  have HK:=J hk
  clear hk
  go_wp2_with fail
  refine (check9_any _ m w HK.out HM.out.mail HOK.out HZ.out).mono ?_
  rintro e w2 ⟨rfl,hb⟩
  clear c0 c1 c2 c3 c4 c5 c6 c7 c8 c9 c10 c11 c12 c13 c14 c15 c16
  have h2:=HM.out.below hb
  have h92:=HK9.out.below hb HK9.out.lt
  obtain⟨c9,c10⟩:=h2.k4.cs 9 2
  obtain⟨e0,e1⟩:=h92.cs 0 2
  have HB:=J hb
  clear hb h2 h92
  obtain⟨r,hr⟩:∃ r,r=m.right9:=⟨_,rfl⟩
  rw [<-hr]
  have HR9:=J hr
  clear hr
  cases r with
  | false=>
   go_wp2_with fail
   refine HQ.out _ _ ⟨rfl,rfl,rfl,rfl,rfl,rfl,rfl,rfl,?_,trivial⟩ HB.out
   rw [HT.out,<-HR9.out];simp;rfl
  | true=>
   by_cases hE1:m.epoch=hE
   ·have d1:(m.epoch==hE)=true:=by simp [hE1]
    have HE1:=J hE1
    clear hE1
    by_cases hS1:m.site=hS
    ·have d2:(m.site != hS)=false:=by simp [hS1]
     exact Y79
    ·have d2:(m.site != hS)=true:=by simp [hS1]
     exact Y79
   ·have d1:(m.epoch==hE)=false:=by simp [hE1]
    have HE1:=J hE1
    clear hE1
    go_wp2_with fail
    refine HQ.out _ _ ⟨rfl,rfl,rfl,rfl,rfl,rfl,rfl,rfl,?_,trivial⟩ HB.out
    rw [HT.out,<-HR9.out];simp [HK.out,HE1.out];rfl
 ·have d0:(m.kind != 9)=true:=by simp [hk]
  have HK:=J hk
  clear hk
  go_wp2_with fail
  refine HQ.out _ _ ⟨rfl,rfl,rfl,rfl,rfl,rfl,rfl,rfl,?_,trivial⟩ (Below.refl _ _)
  rw [HT.out];simp [HK.out];rfl
end
theorem meet_boxes (w:World) (mc rc:Array Value):∃ w4,w4=(((w.alloc (.cells mc 30)).alloc (.cells rc 32)).alloc (.cells noMail 30)).alloc (.cells noCmd 47)/\w4.heap.size=w.heap.size+4/\Below w w w4/\Blk w4 w 30 mc/\Blk w4 (w.heap.size+1) 32 rc/\Blk w4 (w.heap.size+2) 30 noMail/\Blk w4 (w.heap.size+3) 47 noCmd:=by
 have k4:=(((Blk.new w 30 mc).alloc (.cells rc 32)).alloc (.cells noMail 30)).alloc (.cells noCmd 47)
 have k5:=((Blk.new (w.alloc (.cells mc 30)) 32 rc).alloc (.cells noMail 30)).alloc (.cells noCmd 47)
 have k6:=(Blk.new ((w.alloc (.cells mc 30)).alloc (.cells rc 32)) 30 noMail).alloc (.cells noCmd 47)
 have k7:=Blk.new (((w.alloc (.cells mc 30)).alloc (.cells rc 32)).alloc (.cells noMail 30)) 47 noCmd
 have s1:(w.alloc (.cells mc 30)).heap.size=w.heap.size+1:=by simp
 have s2:((w.alloc (.cells mc 30)).alloc (.cells rc 32)).heap.size=w.heap.size+2:=by simp
 have s3:(((w.alloc (.cells mc 30)).alloc (.cells rc 32)).alloc (.cells noMail 30)).heap.size=w.heap.size+3:=by simp
 rw [s1] at k5
 rw [s2] at k6
 rw [s3] at k7
 exact⟨_,rfl,by simp,((((Below.refl _ _).alloc (Nat.le_refl _) _).alloc (by simp) _).alloc (by simp;omega) _).alloc (by simp;omega) _,k4,k5,k6,k7⟩
section
variable {w:World} (Q:Z) (a:Act) (hfr:Fr 128 a [(4,b4),(5,b5),(6,b6),(7,b7),(10,fence),(11,b11)]) (c9:w.cell? ⟨b4,9,none⟩=some (.int .i64 m.epoch))
include Q a hfr c9
theorem mt6 (hQ:∀ a',Fr 128 a' [(4,b4),(5,b5),(6,b6),(7,b7),(10,fence),(11,b11),(55,(decide (m.epoch<fence)))]->Q .normal a' w):(part [1,1,1,1,1,0,0] (codeOf meetF)).wp prog Q a w:=by
 have HQ:=J hQ
 clear hQ
 exact Y30
theorem mt8 (hQ:∀ a',Fr 128 a' [(4,b4),(5,b5),(6,b6),(7,b7),(10,fence),(11,b11),(61,.bool (m.epoch==fence))]->Q .normal a' w):(part [1,1,1,1,1,1,0,0] (codeOf meetF)).wp prog Q a w:=by
 have HQ:=J hQ
 clear hQ
 exact Y30
end
theorem mbody {w:World} (R:Ending->World->Prop) (a:Act) (hfr:Fr 128 a [(0,g),(4,b4),(5,b5),(6,b6),(7,b7),(9,b9)]) (h:Mt W w b4 b5 b6 b7 m (mailC m.kind m.term m.index m.prev m.commit m.good eA en ec m.data hA hn hc m.epoch m.site m.atN m.atE m.whN m.whE oA on oc pA pn pc) sN sE jA jn jc holes noMail) (h9:Blk w b9 93 #[hE,hS]) (hg:Blk w g 98 cs) (h3:cs[3]? = some (.int .i64 hE)) (h4:cs[4]? = some (.int .i64 hS)) (h5:cs[5]? = some (.slice A n c)) (h7:cs[7]? = some (.int .i64 fence)) (ho:OpsIs w Sx A n c os) (hz:n<=4294967296) (hoo:∀ o∈os,o.Ok) (hmz:m.ops.length<=4294967296) (hok:m.Ok) (hsN:I64 sN) (hsE:I64 sE) (hjz:holes.length*8<=140737488351232) (hj:∀ z∈holes,I64 z) (hE_:hE=(holderC os).1) (hS_:hS=(holderC os).2) (hR:∀ x w',MeetR W (meetP os fence m sN sE holes) x w'->R x w') :
 (part [1,1] (codeOf meetF)).wp prog (bodyPost prog meetF R) a w:=by
 have hlo:=h.lo
 have hRR:=hR
 refine Wt ?_
 refine Wt ?_
 refine mt2 hmz hok _ a hfr h h9 fun a1 w1 hf1 hb1=>?_
 show (part [1,1,0,1] (codeOf meetF)).wp prog _ a1 w1
 have h1:=h.below hb1
 have hg1:=hg.below hb1 hg.lt
 have ho1:=ho.below hb1
 obtain⟨hd1,hs1,f0,f4,f5,f6,f7,f9,f40,-⟩:=hf1
 subst hE_ hS_
 refine wp_if (o:=.tmp 40) (x:=part [1,1,0,1,0] (codeOf meetF)) (y:=part [1,1,0,1,1] (codeOf meetF)) (t:=!(decide ((m.kind=9/\m.right9=true)/\¬ (m.epoch=(holderC os).1/\m.site≠(holderC os).2)))) kr (eval_at f40 rfl) ?_ ?_
 ·intro ht
  have ht':¬ ((m.kind=9/\m.right9=true)/\¬ (m.epoch=(holderC os).1/\m.site≠(holderC os).2)):=of_decide_eq_false (by rw [Bool.not_eq_true'] at ht;exact ht)
  refine mret3 R (by exact fun a w h=>h) W.heap.size W a1 w1 b6 b7 ⟨hd1,hs1,f6,f7,trivial⟩ h1.k6 h1.k7 (by omega) (by omega) (by omega) h1.bel fun w3 hb3 hk3=>?_
  refine hR _ _ ?_
  unfold meetP
  rw [if_neg ht']
  exact⟨_,_,rfl,mailZ_is _ _,cmdZ_is _ _,hb3⟩
 ·intro ht
  have ht':(m.kind=9/\m.right9=true)/\¬ (m.epoch=(holderC os).1/\m.site≠(holderC os).2):=Decidable.of_not_not fun hn=>by rw [decide_eq_false hn] at ht;exact absurd ht (by decide)
  unfold meetP at hR
  rw [if_pos ht'] at hR
  refine wp_nop kr ?_
  show (part [1,1,1] (codeOf meetF)).wp prog _ a1 w1
  refine Wt ?_
  refine mt4 _ a1 ⟨hd1,hs1,f0,f4,f5,f6,f7,trivial⟩ hg1 h5 h7 ho1 hz hoo fun a2 w2 b11 A2 c2 hf2 h11 ho2 hb11 hb2=>?_
  show (part [1,1,1,1] (codeOf meetF)).wp prog _ a2 w2
  have h2:=h1.below hb2
  refine Wt ?_
  refine mt5 rfl _ a2 hf2 h2 fun a3 w3 hf3 h3 hk3=>?_
  show (part [1,1,1,1,1] (codeOf meetF)).wp prog _ a3 w3
  have hl6:=h1.k6.lt
  have n11:b11≠b6:=by omega
  have h11':=h11.kept_ hk3 n11
  have ho3:=ho2.kept (hk3.mono fun b _ hb=>by have:w1.heap.size<=b:=hb;show b≠b6;omega)
  obtain⟨hd3,hs3,g4,g5,g6,g7,g10,g11,-⟩:=hf3
  have c9:=h3.k4.c1 9
  refine Wt ?_
  refine Wt ?_
  refine mt6 _ a3 ⟨hd3,hs3,g4,g5,g6,g7,g10,g11,trivial⟩ c9 fun a4 hf4=>?_
  show (part [1,1,1,1,1,0,1] (codeOf meetF)).wp prog _ a4 w3
  obtain⟨hd4,hs4,k4,k5,k6,k7,k10,k11,k55,-⟩:=hf4
  refine wp_if (o:=.tmp 55) (x:=part [1,1,1,1,1,0,1,0] (codeOf meetF)) (y:=part [1,1,1,1,1,0,1,1] (codeOf meetF)) (t:=decide (m.epoch<fence)) kr (eval_at k55 rfl) ?_ ?_
  ·intro hlt
   have hlt':=of_decide_eq_true hlt
   rw [if_pos hlt'] at hR
   rw [if_pos hlt'] at h3
   refine mret7 R (by exact fun a w h=>h) W.heap.size W a4 w3 b6 b7 ⟨hd4,hs4,k6,k7,trivial⟩ h3.k6 h3.k7 (by omega) (by omega) (by omega) h3.bel fun w5 hb5 hk5=>?_
   exact hR _ _ ⟨_,_,rfl,ansM_is _ _ _ _ _ _ (ints_nil _ _),cmdZ_is _ _,hb5⟩
  ·intro hlt
   have hlt':=of_decide_eq_false hlt
   rw [if_neg hlt'] at hR
   rw [if_neg hlt'] at h3
   refine wp_nop kr ?_
   show (part [1,1,1,1,1,1] (codeOf meetF)).wp prog _ a4 w3
   have hprop:∀ a w',Fr 128 a [(4,b4),(5,b5),(6,b6),(7,b7),(11,b11)]->(∃ A,Mt W w' b4 b5 b6 b7 m (mailC m.kind m.term m.index m.prev m.commit m.good eA en ec m.data hA hn hc m.epoch m.site m.atN m.atE m.whN m.whE oA on oc pA pn pc) sN sE jA jn jc holes A/\A.size=17)->meetP os fence m sN sE holes=(mailZ,propC m,2)->(part [1,1,1,1,1,1,1] (codeOf meetF)).wp prog (bodyPost prog meetF R) a w':=by
    intro a' w' hf' ⟨ans,hm',hsz⟩ he
    obtain⟨hd',hs',q4,q5,q6,q7,q11,-⟩:=hf'
    obtain⟨_,_,_,_,_,_,_,_,_,xA,xn,xc,hec,_,_,_,hops⟩:=hm'.mail
    have he2:=congrArg (fun c=>c[16]?) hec
    simp at he2
    obtain⟨rfl,rfl,rfl⟩:=he2
    have hpl:=hops.len
    refine mprop R W.heap.size W a' w' b4 b6 b7 ⟨hd',hs',q4,q6,q7,trivial⟩ hm'.k4 hops (by omega) hok.op ⟨_,hm'.k6,hsz⟩ ⟨_,hm'.k7,rfl⟩ ⟨by omega,by omega,by omega,by omega,by omega⟩ ⟨by omega,by omega⟩ hm'.bel fun A' c' w5 hb5 hi5=>?_
    refine hRR _ _ ?_
    rw [he]
    exact⟨_,_,rfl,mailZ_is _ _,propC_is m hi5,hb5⟩
   refine Wt ?_
   have c9':=h3.k4.cell 9
   simp at c9'
   refine Wt ?_
   refine mt8 _ a4 ⟨hd4,hs4,k4,k5,k6,k7,k10,k11,trivial⟩ c9' fun a5 hf5=>?_
   show (part [1,1,1,1,1,1,0,1] (codeOf meetF)).wp prog _ a5 w3
   obtain⟨hd5,hs5,l4,l5,l6,l7,l10,l11,l61,-⟩:=hf5
   refine wp_if (o:=.tmp 61) (x:=part [1,1,1,1,1,1,0,1,0] (codeOf meetF)) (y:=part [1,1,1,1,1,1,0,1,1] (codeOf meetF)) (t:=m.epoch==fence) kr (eval_at l61 rfl) ?_ ?_
   ·intro heq
    have heq':m.epoch=fence:=by simpa using heq
    refine mequal R (by exact fun a w h=>h) a5 ⟨hd5,hs5,l4,l5,l6,l7,l11,trivial⟩ h3 h11' ho3 hz hmz hok hsN hsE hjz hj n11 (fun b hb=>by have:w1.heap.size<=b:=hb;omega) ?_ ?_ ?_
    ·intro hno mc' w5 hm5 hb5
     refine hR _ _ ?_
     rw [if_pos ⟨heq',hno⟩]
     exact⟨_,_,rfl,hm5,cmdZ_is _ _,hb5⟩
    ·intro hyes hall mc' w5 hm5 hb5
     refine hR _ _ ?_
     rw [if_neg (by rw [hyes];simp),if_pos ⟨heq',hall⟩]
     exact⟨_,_,rfl,hm5,cmdZ_is _ _,hb5⟩
    ·intro hyes hnall a6 w6 hf6 hm6
     refine hprop a6 w6 hf6 ⟨_,hm6,rfl⟩ ?_
     unfold meetP
     rw [if_pos ht',if_neg hlt',if_neg (by rw [hyes];simp),if_neg (by rw [hnall];simp)]
   ·intro hne
    have hne':¬ m.epoch=fence:=by simpa using hne
    refine wp_nop kr ?_
    refine hprop a5 w3 ⟨hd5,hs5,l4,l5,l6,l7,l11,trivial⟩ ⟨_,h3,rfl⟩ ?_
    unfold meetP
    rw [if_pos ht',if_neg hlt',if_neg (fun h=>hne' h.1),if_neg (fun h=>hne' h.1)]
theorem meet_any (w:World) {mc:Array Value} (hg:Blk w g 98 cs) (h3:cs[3]? = some (.int .i64 hE)) (h4:cs[4]? = some (.int .i64 hS)) (h5:cs[5]? = some (.slice A n c)) (h7:cs[7]? = some (.int .i64 fence)) (ho:OpsIs w Sx A n c os) (hz:n<=4294967296) (hoo:∀ o∈os,o.Ok) (hm:MailIs w Sm mc m) (hj_:IntIs w Sj jA jn jc holes) (hmz:m.ops.length<=4294967296) (hok:m.Ok) (hsN:I64 sN) (hsE:I64 sE) (hjz:holes.length*8<=140737488351232) (hj:∀ z∈holes,I64 z) (hE_:hE=(holderC os).1) (hS_:hS=(holderC os).2) :
 Calls prog 16 #[.pointer (some ⟨g,0,none⟩),.agg mc,.agg #[sN,sE,.slice jA jn jc]] w (MeetR w (meetP os fence m sN sE holes)):=by
 have hm_:=hm
 obtain⟨eA,en,ec,hA,hn,hc,oA,on,oc,pA,pn,pc,rfl,_⟩:=hm
 have hm:MailIs w (fun b=>b<w) (mailC m.kind m.term m.index m.prev m.commit m.good eA en ec m.data hA hn hc m.epoch m.site m.atN m.atE m.whN m.whE oA on oc pA pn pc) m:=hm_.mono fun b hb _=>hb
 have hj1:IntIs w (fun b=>b<w) jA jn jc holes:=hj_.mono fun b hb _=>hb
 obtain⟨w4,hw4,hs4,hb4,k4,k5,k6,k7⟩:=meet_boxes w (mailC m.kind m.term m.index m.prev m.commit m.good eA en ec m.data hA hn hc m.epoch m.site m.atN m.atE m.whN m.whE oA on oc pA pn pc) #[sN,sE,.slice jA jn jc]
 have hg4:=hg.below hb4 hg.lt
 have ho4:=ho.below hb4
 have hmt:Mt w w4 w.heap.size (w.heap.size+1) (w.heap.size+2) (w.heap.size+3) m (mailC m.kind m.term m.index m.prev m.commit m.good eA en ec m.data hA hn hc m.epoch m.site m.atN m.atE m.whN m.whE oA on oc pA pn pc) sN sE jA jn jc holes noMail:=⟨k4,hm.below hb4,k5,hj1.below hb4,k6,k7,hb4,Nat.le_refl _,by omega,by omega,by omega⟩
 have hld:=holder_any w4 hg4 h3 h4
 obtain⟨HW4,HMT,HLD,HG,HO,HZ,H3,H4,H5⟩:=J9 hw4 hmt hld hg4 ho4 hz h3 h4 h5
 obtain⟨H7,HOO,HMZ,HOK,HN,HE,HJZ,HJ,HE_⟩:=J9 h7 hoo hmz hok hsN hsE hjz hj hE_
 have HS_:=J hS_
 clear hw4 hs4 hb4 k4 k5 k6 k7 hg4 ho4 hmt hld hm hj1 hm_ hj_ hg h3 h4 h5 h7 ho hz hoo hmz hok hsN hsE hjz hj hE_ hS_
 go_enter func16,ntmps16
 conv=>arg 2;arg 2;arg 2;change part [1,1] (codeOf meetF)
 go_wp2_with fail
 rw [<-HW4.out]
 refine HLD.out.mono ?_
 rintro e w5 ⟨rfl,hb5⟩
 have hb6:=hb5.alloc hb5.size (.cells #[hE,hS] 93)
 have HB6:=J hb6
 have HK9:=J (Blk.new w5 93 #[hE,hS])
 clear hb5 hb6
 go_wp2_with fail
 exact mbody (W:=w) _ _ ff (HMT.out.below HB6.out) HK9.out (HG.out.below HB6.out HG.out.lt) H3.out H4.out H5.out H7.out (HO.out.below HB6.out) HZ.out HOO.out HMZ.out HOK.out HN.out HE.out HJZ.out HJ.out HE_.out HS_.out fun x w' h=>h
end
end Go.Proofs.Ytaipgdhdfpemcaa
