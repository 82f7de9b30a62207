/- THE WALKS OF THE LANE, part 50. -/
import Derived.Test.YtaipgdhdfpemcaaF30
import Derived.Test.YtaipgdhdfpemcaaF49
namespace Go.Proofs.Ytaipgdhdfpemcaa
set_option linter.all false
open Go.RowKit Go.Proofs.Try
set_option maxRecDepth 100000
set_option maxHeartbeats 4000000
structure Rt (W w:World) (b b4 b5 b6 b7:Nat) (A:O) (n c:Nat) (os:List OpC) (lA:O) (ln lc:Nat) (fence st:Int) (m:MailC) (mc:Array Value) (sN sE:Int) (jA:O) (jn jc:Nat) (holes:List Int):Prop where
 g:Rg w b b4 (fun q=>q<W) A n c os lA ln lc fence st mc
 mail:MailIs w (fun q=>q<W) mc m
 k5:Blk w b5 32 #[sN,sE,.slice jA jn jc]
 ints:IntIs w (fun q=>q<W) jA jn jc holes
 k6:Blk w b6 30 noMail
 k7:Blk w b7 47 noCmd
 bel:Below W W w
 lo:W.heap.size<=b4/\b4<b5/\b5<b6/\b6<b7/\b<W
section
variable {mc:Array Value} {fence sE sN st:Int} {holes:List Int} {os:List OpC} {m:MailC} {b b4 b5 b6 b7 c jc jn lc ln n:Nat} {A jA lA:O} {W w w':World}
section
variable (h:Rt W w b b4 b5 b6 b7 A n c os lA ln lc fence st m mc sN sE jA jn jc holes)
include h
theorem Rt.step (hb:Below (b7+1) w w'):Rt W w' b b4 b5 b6 b7 A n c os lA ln lc fence st m mc sN sE jA jn jc holes:=by
 have hlo:=h.lo
 have hk:Kept (fun q=>q<W) w w':=⟨hb.size,fun q hq _=>hb.block q (by have:q<W:=hq;omega)⟩
 exact⟨⟨h.g.led.below hb (by omega),h.g.ops.kept hk,h.g.k4.below hb (by omega)⟩,h.mail.kept hk,h.k5.below hb (by omega),h.ints.kept hk,h.k6.below hb (by omega),h.k7.below hb (by omega),h.bel.trans (hb.mono (by omega)),hlo⟩
theorem Rt.below (hb:Below w w w'):Rt W w' b b4 b5 b6 b7 A n c os lA ln lc fence st m mc sN sE jA jn jc holes:=
 h.step (hb.mono h.k7.lt)
end
end
section
section
variable {al good:Bool} {E N e fence hE hS sE sN st whE whN yE yN:Int} {holes:List Int} {os:List OpC} {m:MailC} {b b11 b13 b14 b4 b5 b6 b7 b9 c ec en hc hn jc jn k kc kn lc ln n oc on pc pn:Nat} {A eA hA jA kA lA oA pA:O} {o:OpC} {W w:World}
theorem rm2 (hmz:m.ops.length<=4294967296) (hok:m.Ok) (Q:Z) (a:Act) (hfr:Fr 161 a [(0,b),(4,b4),(5,b5),(6,b6),(7,b7),(9,b9)]) (h:Rt W w b b4 b5 b6 b7 A n c os lA ln lc fence st m (mailC m.kind m.term m.index m.prev m.commit m.good eA en ec m.data hA hn hc m.epoch m.site m.atN m.atE m.whN m.whE oA on oc pA pn pc) sN sE jA jn jc holes) (h9:Blk w b9 93 #[hE,hS]) (hQ:∀ a' w',Fr 161 a' [(0,b),(4,b4),(5,b5),(6,b6),(7,b7),(38,(!(decide ((m.kind=9/\m.right9=true)/\¬ (m.epoch=hE/\m.site≠hS)))))]->Below w w w'->Q .normal a' w') :
 (part [1,1,0,0] (codeOf rmeetF)).wp prog Q a w:=by
 obtain⟨t,ht⟩:∃ t,t = !(decide ((m.kind=9/\m.right9=true)/\¬ (m.epoch=hE/\m.site≠hS))):=⟨_,rfl⟩
 rw [<-ht] at hQ
 have c0:=h.g.k4.c1 0
 obtain⟨HT,HQ,HM,HK9,HZ,HOK⟩:=J6 ht hQ h h9 hmz hok
 clear hQ h h9 ht hmz hok
 refine gg hfr fun t=>?_
 by_cases hk:m.kind=9
 ·have d0:(m.kind != 9)=false:=by simp [hk]
  obtain⟨c1,c2,c3,c4,c5,c6,c7,c8,c9,c10,c11,c12,c13,c14,c15,c16⟩:=HM.out.g.k4.cs 1 16
  have HK:=J hk
  clear hk
  go_wp2_with fail
  refine (rright9_any _ m w HK.out HM.out.mail HOK.out HZ.out).mono ?_
  rintro e w2 ⟨rfl,hb⟩
  clear c0 c1 c2 c3 c4 c5 c6 c7 c8 c9 c10 c11 c12 c13 c14 c15 c16
  have h2:=HM.out.below hb
  have h92:=HK9.out.below hb HK9.out.lt
  obtain⟨c9,c10⟩:=h2.g.k4.cs 9 2
  obtain⟨e0,e1⟩:=h92.cs 0 2
  have HB:=J hb
  clear hb h2 h92
  obtain⟨r,hr⟩:∃ r,r=m.right9:=⟨_,rfl⟩
  rw [<-hr]
  have HR9:=J hr
  clear hr
  cases r with
  | false=>
   go_wp2_with fail
   refine HQ.out _ _ ⟨rfl,rfl,rfl,rfl,rfl,rfl,rfl,?_,trivial⟩ HB.out
   rw [HT.out,<-HR9.out];simp;rfl
  | true=>
   by_cases hE1:m.epoch=hE
   ·have d1:(m.epoch==hE)=true:=by simp [hE1]
    have HE1:=J hE1
    clear hE1
    by_cases hS1:m.site=hS
    ·have d2:(m.site != hS)=false:=by simp [hS1]
     exact Y103
    ·have d2:(m.site != hS)=true:=by simp [hS1]
     exact Y103
   ·have d1:(m.epoch==hE)=false:=by simp [hE1]
    have HE1:=J hE1
    clear hE1
    go_wp2_with fail
    refine HQ.out _ _ ⟨rfl,rfl,rfl,rfl,rfl,rfl,rfl,?_,trivial⟩ HB.out
    rw [HT.out,<-HR9.out];simp [HK.out,HE1.out];rfl
 ·have d0:(m.kind != 9)=true:=by simp [hk]
  have HK:=J hk
  clear hk
  go_wp2_with fail
  refine HQ.out _ _ ⟨rfl,rfl,rfl,rfl,rfl,rfl,rfl,?_,trivial⟩ (Below.refl _ _)
  rw [HT.out];simp [HK.out];rfl
section
variable (R:Ending->World->Prop) {Q:Z} (hret:∀ a w,bodyPost prog rmeetF R .ret a w->Q .ret a w) (a:Act)
include R hret a
section
variable (hfr:Fr 161 a [(0,b),(4,b4),(5,b5),(6,b6),(7,b7)]) (h:Rt W w b b4 b5 b6 b7 A n c os lA ln lc fence st m (mailC m.kind m.term m.index m.prev m.commit m.good eA en ec m.data hA hn hc m.epoch m.site m.atN m.atE m.whN m.whE oA on oc pA pn pc) sN sE jA jn jc holes)
include hfr h
theorem rm3 (hR:∀ w',Below W W w'->Kept (But b6 b7) w w'->R (.returned (.tuple #[.agg noMail,.agg noCmd,.int .i64 0])) w') :
 (part [1,1,0,1,0] (codeOf rmeetF)).wp prog Q a w:=by
 refine w2 ?_
 have hlo:=h.lo
 have k6:Blk (w.setCells b6 0 noMail.toList) b6 30 noMail:=h.k6.setCells_ noMail.toList rfl
 have sv:=save_setCells w b6 0 noMail.toList
 have k7:=sv.blk h.k7 (by omega)
 have HT6:=J (h.k6.there_ 0 17 (by show 0+17<=17;omega))
 have HT7:=J (k7.there_ 0 16 (by show 0+16<=16;omega))
 have l7:Blk ((w.setCells b6 0 noMail.toList).setCells b7 0 noCmd.toList) b7 47 noCmd:=k7.setCells_ noCmd.toList rfl
 have l6:=(save_setCells (w.setCells b6 0 noMail.toList) b7 0 noCmd.toList).blk k6 (by omega)
 have hb:=below_setCells (b:=b7) (B:=W.heap.size) (by omega) (below_setCells (b:=b6) (by omega) h.bel 0 noMail.toList) 0 noCmd.toList
 have hk:Kept (But b6 b7) w ((w.setCells b6 0 noMail.toList).setCells b7 0 noCmd.toList):=((Kept.refl _ _).cells _ _ (.inl fun h=>h.1 rfl) _).cells _ _ (.inl fun h=>h.2 rfl) _
 obtain⟨L6,L7,HB,HK,HR,HRET⟩:=J6 l6 l7 hb hk hR hret
 clear hR hret k6 sv k7 l7 l6 hb hk hlo h
 refine gg hfr fun t=>?_
 refine wp_region_lit ?_
 refine wpList_value' rfl (.agg noMail) w (by unfold execOp;go_simp) ?_
 refine wpList_value' rfl (.agg noCmd) w (by unfold execOp;go_simp) ?_
 refine wpList_store_mid rfl 30 (.tmp 6) (.tmp 39) rfl b6 0 noMail rfl rfl HT6.out Try.sizeMail mailC_one ?_
 refine wpList_store_mid rfl 47 (.tmp 7) (.tmp 40) rfl b7 0 noCmd rfl rfl HT7.out Try.sizeCmd noCmd_one ?_
 go_wp2_with fail
 have e:part [1,1,0,1,0,1] (codeOf rmeetF)=Code.ret:=by kernel_rfl
 show (part [1,1,0,1,0,1] (codeOf rmeetF)).wp prog Q _ _
 exact Y85
theorem rm5 (hR:∀ w',Below W W w'->Kept (But b6 b7) w w'->R (.returned (.tuple #[.agg (mailC 10 0 0 0 0 false none 0 0 ⟨#[]⟩ none 0 0 fence 0 0 0 0 0 none 0 0 none 0 0),.agg noCmd,.int .i64 1])) w') :
 (part [1,1,1,0,1,0] (codeOf rmeetF)).wp prog Q a w:=by
 refine w2 ?_
 have hlo:=h.lo
 have d:=h.g.led.c1 2
 have k6:Blk (w.setCells b6 0 (mailC 10 0 0 0 0 false none 0 0 ⟨#[]⟩ none 0 0 fence 0 0 0 0 0 none 0 0 none 0 0).toList) b6 30 (mailC 10 0 0 0 0 false none 0 0 ⟨#[]⟩ none 0 0 fence 0 0 0 0 0 none 0 0 none 0 0):=h.k6.setCells_ (mailC 10 0 0 0 0 false none 0 0 ⟨#[]⟩ none 0 0 fence 0 0 0 0 0 none 0 0 none 0 0).toList rfl
 have sv:=save_setCells w b6 0 (mailC 10 0 0 0 0 false none 0 0 ⟨#[]⟩ none 0 0 fence 0 0 0 0 0 none 0 0 none 0 0).toList
 have k7:=sv.blk h.k7 (by omega)
 have HT6:=J (h.k6.there_ 0 17 (by show 0+17<=17;omega))
 have HT7:=J (k7.there_ 0 16 (by show 0+16<=16;omega))
 have l7:Blk ((w.setCells b6 0 (mailC 10 0 0 0 0 false none 0 0 ⟨#[]⟩ none 0 0 fence 0 0 0 0 0 none 0 0 none 0 0).toList).setCells b7 0 noCmd.toList) b7 47 noCmd:=k7.setCells_ noCmd.toList rfl
 have l6:=(save_setCells (w.setCells b6 0 (mailC 10 0 0 0 0 false none 0 0 ⟨#[]⟩ none 0 0 fence 0 0 0 0 0 none 0 0 none 0 0).toList) b7 0 noCmd.toList).blk k6 (by omega)
 have hb:=below_setCells (b:=b7) (B:=W.heap.size) (by omega) (below_setCells (b:=b6) (by omega) h.bel 0 (mailC 10 0 0 0 0 false none 0 0 ⟨#[]⟩ none 0 0 fence 0 0 0 0 0 none 0 0 none 0 0).toList) 0 noCmd.toList
 have hk:Kept (But b6 b7) w ((w.setCells b6 0 (mailC 10 0 0 0 0 false none 0 0 ⟨#[]⟩ none 0 0 fence 0 0 0 0 0 none 0 0 none 0 0).toList).setCells b7 0 noCmd.toList):=((Kept.refl _ _).cells _ _ (.inl fun h=>h.1 rfl) _).cells _ _ (.inl fun h=>h.2 rfl) _
 obtain⟨L6,L7,HB,HK,HR,HRET⟩:=J6 l6 l7 hb hk hR hret
 clear hR hret k6 sv k7 l7 l6 hb hk hlo h
 refine gg hfr fun t=>?_
 refine wp_region_lit ?_
 refine wpList_value' rfl (.pointer (some ⟨b,0,none⟩)) w (by unfold execOp;go_simp) ?_
 refine wpList_value' rfl (.pointer (some ⟨b,0,none⟩)) w (by unfold execOp;go_simp) ?_
 refine wpList_value' rfl (.pointer (some ⟨b,2,none⟩)) w (by unfold execOp;go_simp) ?_
 refine wpList_value' rfl (.int .i64 fence) w (by unfold execOp;go_simp) ?_
 refine wpList_value' rfl (.agg (mailC 10 0 0 0 0 false none 0 0 ⟨#[]⟩ none 0 0 fence 0 0 0 0 0 none 0 0 none 0 0)) w (by unfold execOp;go_simp) ?_
 refine wpList_value' rfl (.agg noCmd) w (by unfold execOp;go_simp) ?_
 simp [Act.put]
 refine wpList_store_mid rfl 30 (.tmp 6) (.tmp 52) rfl b6 0 (mailC 10 0 0 0 0 false none 0 0 ⟨#[]⟩ none 0 0 fence 0 0 0 0 0 none 0 0 none 0 0) rfl rfl HT6.out Try.sizeMail mailC_one ?_
 refine wpList_store_mid rfl 47 (.tmp 7) (.tmp 53) rfl b7 0 noCmd rfl rfl HT7.out Try.sizeCmd noCmd_one ?_
 go_wp2_with fail
 have e:part [1,1,1,0,1,0,1] (codeOf rmeetF)=Code.ret:=by kernel_rfl
 show (part [1,1,1,0,1,0,1] (codeOf rmeetF)).wp prog Q _ _
 exact Y85
end
theorem rm22 (hfr:Fr 161 a [(0,b),(4,b4),(5,b5),(6,b6),(7,b7),(13,b13)]) (h:Rt W w b b4 b5 b6 b7 A n c os lA ln lc fence st m (mailC m.kind m.term m.index m.prev m.commit m.good eA en ec m.data hA hn hc m.epoch m.site m.atN m.atE m.whN m.whE oA on oc pA pn pc) sN sE jA jn jc holes) (h13:Blk w b13 30 (mailC 10 0 0 0 0 good none 0 0 ⟨#[]⟩ none 0 0 e 0 N E whN whE kA kn kc none 0 0)) (hR:∀ w',Below W W w'->Kept (But b6 b7) w w'->R (.returned (.tuple #[.agg (mailC 10 0 0 0 0 good none 0 0 ⟨#[]⟩ none 0 0 e 0 N E whN whE kA kn kc none 0 0),.agg noCmd,.int .i64 1])) w') :
 (part [1,1,1,1,1,1,1,1,0,1,0,1,1,1,1,1] (codeOf rmeetF)).wp prog Q a w:=by
 refine w2 ?_
 have hlo:=h.lo
 have HR13:=J h13.range
 have k6:Blk (w.setCells b6 0 (mailC 10 0 0 0 0 good none 0 0 ⟨#[]⟩ none 0 0 e 0 N E whN whE kA kn kc none 0 0).toList) b6 30 (mailC 10 0 0 0 0 good none 0 0 ⟨#[]⟩ none 0 0 e 0 N E whN whE kA kn kc none 0 0):=h.k6.setCells_ (mailC 10 0 0 0 0 good none 0 0 ⟨#[]⟩ none 0 0 e 0 N E whN whE kA kn kc none 0 0).toList rfl
 have sv:=save_setCells w b6 0 (mailC 10 0 0 0 0 good none 0 0 ⟨#[]⟩ none 0 0 e 0 N E whN whE kA kn kc none 0 0).toList
 have k7:=sv.blk h.k7 (by omega)
 have HT6:=J (h.k6.there_ 0 17 (by show 0+17<=17;omega))
 have HT7:=J (k7.there_ 0 16 (by show 0+16<=16;omega))
 have l7:Blk ((w.setCells b6 0 (mailC 10 0 0 0 0 good none 0 0 ⟨#[]⟩ none 0 0 e 0 N E whN whE kA kn kc none 0 0).toList).setCells b7 0 noCmd.toList) b7 47 noCmd:=k7.setCells_ noCmd.toList rfl
 have l6:=(save_setCells (w.setCells b6 0 (mailC 10 0 0 0 0 good none 0 0 ⟨#[]⟩ none 0 0 e 0 N E whN whE kA kn kc none 0 0).toList) b7 0 noCmd.toList).blk k6 (by omega)
 have hb:=below_setCells (b:=b7) (B:=W.heap.size) (by omega) (below_setCells (b:=b6) (by omega) h.bel 0 (mailC 10 0 0 0 0 good none 0 0 ⟨#[]⟩ none 0 0 e 0 N E whN whE kA kn kc none 0 0).toList) 0 noCmd.toList
 have hk:Kept (But b6 b7) w ((w.setCells b6 0 (mailC 10 0 0 0 0 good none 0 0 ⟨#[]⟩ none 0 0 e 0 N E whN whE kA kn kc none 0 0).toList).setCells b7 0 noCmd.toList):=((Kept.refl _ _).cells _ _ (.inl fun h=>h.1 rfl) _).cells _ _ (.inl fun h=>h.2 rfl) _
 obtain⟨L6,L7,HB,HK,HR,HRET⟩:=J6 l6 l7 hb hk hR hret
 clear hR hret k6 sv k7 l7 l6 hb hk hlo h h13
 refine gg hfr fun t=>?_
 refine wp_region_lit ?_
 refine wpList_load_mid rfl 30 (.tmp 13) rfl b13 0 rfl _ _ HR13.out underlying30 rfl Try.sizeMail ?_
 refine wpList_value' rfl (.agg noCmd) w (by unfold execOp;go_simp) ?_
 refine wpList_store_mid rfl 30 (.tmp 6) (.tmp 144) rfl b6 0 (mailC 10 0 0 0 0 good none 0 0 ⟨#[]⟩ none 0 0 e 0 N E whN whE kA kn kc none 0 0) rfl rfl HT6.out Try.sizeMail mailC_one ?_
 refine wpList_store_mid rfl 47 (.tmp 7) (.tmp 145) rfl b7 0 noCmd rfl rfl HT7.out Try.sizeCmd noCmd_one ?_
 go_wp2_with fail
 have e:part [1,1,1,1,1,1,1,1,0,1,0,1,1,1,1,1,1] (codeOf rmeetF)=Code.ret:=by kernel_rfl
 show (part [1,1,1,1,1,1,1,1,0,1,0,1,1,1,1,1,1] (codeOf rmeetF)).wp prog Q _ _
 exact Y85
end
theorem rm9 {e:Bool} (Q:Z) (a:Act) (hfr:Fr 161 a [(0,b),(4,b4),(5,b5),(6,b6),(7,b7),(10,e)]) (h:Rt W w b b4 b5 b6 b7 A n c os lA ln lc fence st m (mailC m.kind m.term m.index m.prev m.commit m.good eA en ec m.data hA hn hc m.epoch m.site m.atN m.atE m.whN m.whE oA on oc pA pn pc) sN sE jA jn jc holes) (hQ:∀ a' w',Fr 161 a' [(0,b),(4,b4),(5,b5),(6,b6),(7,b7),(10,e),(11,(w:Nat))]->Blk w' w 26 #[m.atN,m.atE]->Below w w w'->Q .normal a' w') :
 (part [1,1,1,1,1,1,0] (codeOf rmeetF)).wp prog Q a w:=by
 obtain⟨c11,c12⟩:=h.g.k4.cs 11 2
 have HN:=J (Blk.new w 26 #[m.atN,m.atE])
 have HB:=J ((Below.refl _ _).alloc (Nat.le_refl _) _:Below w w (w.alloc (.cells #[m.atN,m.atE] 26)))
 have HQ:=J hQ
 clear hQ h
 refine gg hfr fun t=>?_
 exact Y125
theorem rm11 (Q:Z) (a:Act) (hfr:Fr 161 a [(0,b),(4,b4),(5,b5),(6,b6),(7,b7),(10,al),(11,b11),(12,.int .i64 (k:Nat))]) (h:Rt W w b b4 b5 b6 b7 A n c os lA ln lc fence st m (mailC m.kind m.term m.index m.prev m.commit m.good eA en ec m.data hA hn hc m.epoch m.site m.atN m.atE m.whN m.whE oA on oc pA pn pc) sN sE jA jn jc holes) (hQ:∀ a',Fr 161 a' [(0,b),(4,b4),(5,b5),(6,b6),(7,b7),(10,al),(11,b11),(12,.int .i64 (k:Nat)),(100,(decide (k<pn)))]->Q .normal a' w) :
 (part [1,1,1,1,1,1,1,0,1,0,0,0,0] (codeOf rmeetF)).wp prog Q a w:=by
 have c16:=h.g.k4.c1 16
 have HQ:=J hQ
 clear hQ h
 exact Y13
theorem rm13 (ho:m.ops[k]? = some o) (Q:Z) (a:Act) (hfr:Fr 161 a [(0,b),(4,b4),(5,b5),(6,b6),(7,b7),(10,al),(11,b11),(12,.int .i64 (k:Nat))]) (h:Rt W w b b4 b5 b6 b7 A n c os lA ln lc fence st m (mailC m.kind m.term m.index m.prev m.commit m.good eA en ec m.data hA hn hc m.epoch m.site m.atN m.atE m.whN m.whE oA on oc pA pn pc) sN sE jA jn jc holes) (h11:Blk w b11 26 #[N,E]) (hQ:∀ a' w',Fr 161 a' [(0,b),(4,b4),(5,b5),(6,b6),(7,b7),(10,al),(11,b11),(12,.int .i64 (k:Nat))]->Blk w' b11 26 #[.int .i64 o.n,o.epoch]->Below b11 w w'->Q .normal a' w') :
 (part [1,1,1,1,1,1,1,0,1,0,0,1,0,0,0] (codeOf rmeetF)).wp prog Q a w:=by
 have c16:=h.g.k4.c1 16
 obtain⟨_,_,_,_,_,_,_,_,_,xA,xn,xc,he,_,_,_,hops⟩:=h.mail
 have he2:=congrArg (fun c=>c[16]?) he
 simp at he2
 obtain⟨rfl,rfl,rfl⟩:=he2
 have hlen:=hops.len
 have hk1:k<pn:=by
  rw [<-hlen]
  rcases Nat.lt_or_ge k m.ops.length with h|h
  ·exact h
  ·rw [List.getElem?_eq_none h] at ho;cases ho
 obtain⟨ad,o',xA,xn,xc,rfl,hab,hck,hop,hss⟩:=hops.at_ hk1
 obtain rfl:o'=o:=by rw [hck] at ho;exact Option.some.inj ho
 obtain⟨c0,c1,c2,c3,c4,c5,c6,c7,c8⟩:=hop
 simp only [OpC.at_] at c0 c1 c2 c3 c4 c5 c6 c7 c8
 have z2:(0:Int)<=(k:Nat):=by omega
 have z3:((k:Nat):Int)<((pn:Nat):Int):=by omega
 have d2:decide (k<pn)=true:=decide_eq_true hk1
 have HAT:=J (at_any o'.n o'.epoch o'.kind o'.site o'.client o'.seq o'.name o'.size (.slice xA xn xc) w)
 obtain⟨H11,HQ⟩:=J2 h11 hQ
 clear hQ h h11 hops hlen hck hss hab ho he hk1
 refine gg hfr fun t=>?_
 go_wp2_with fail
 refine HAT.out.mono ?_
 rintro e w2 ⟨rfl,hb⟩
 have h2:=H11.out.below hb H11.out.lt
 have f0:=h2.frozen
 obtain⟨g0,g1⟩:=h2.cs 0 2
 have HN:=J ((h2.set_ 0 (.int .i64 o'.n)).set_ 1 (.int .i64 o'.epoch))
 have HB:=J (((hb.mono (Nat.le_of_lt H11.out.lt)).setCell (p:=⟨b11,0,none⟩) (Nat.le_refl _) (.int .i64 o'.n)).setCell (p:=⟨b11,1,none⟩) (Nat.le_refl _) (.int .i64 o'.epoch))
 clear hb h2
 exact Y125
theorem rm12 (hk:k<4294967296) (Q:Z) (a:Act) (hfr:Fr 161 a [(0,b),(4,b4),(5,b5),(6,b6),(7,b7),(10,al),(11,b11),(12,.int .i64 (k:Nat))]) (hQ:∀ a',Fr 161 a' [(0,b),(4,b4),(5,b5),(6,b6),(7,b7),(10,al),(11,b11),(12,.int .i64 ((k+1:Nat):Nat))]->Q .normal a' w) :
 (part [1,1,1,1,1,1,1,0,1,0,0,1,1] (codeOf rmeetF)).wp prog Q a w:=by
 have HQ:=J hQ
 clear hQ
 refine gg hfr fun t=>?_
 go_wp2_with fail
 exact HQ.out _ ⟨rfl,rfl,rfl,rfl,rfl,rfl,rfl,rfl,rfl,by simp [at_],trivial⟩
section
variable (Q:Z) (a:Act)
include Q a
section
variable (hfr:Fr 161 a [(0,b),(4,b4),(5,b5),(6,b6),(7,b7),(10,al),(11,b11)])
include hfr
theorem rm10 (hQ:∀ a',Fr 161 a' [(0,b),(4,b4),(5,b5),(6,b6),(7,b7),(10,al),(11,b11),(12,.int .i64 ((0:Nat):Nat))]->Q .normal a' w) :
 (part [1,1,1,1,1,1,1,0,0] (codeOf rmeetF)).wp prog Q a w:=by
 exact Y218
theorem rm15 (hQ:∀ a',Fr 161 a' [(0,b),(4,b4),(5,b5),(6,b6),(7,b7),(11,b11),(118,al)]->Q .normal a' w) :
 (part [1,1,1,1,1,1,1,1,0,0] (codeOf rmeetF)).wp prog Q a w:=by
 exact Y218
end
theorem rm16 (hfr:Fr 161 a [(0,b),(4,b4),(5,b5),(6,b6),(7,b7),(11,b11)]) (h:Rt W w b b4 b5 b6 b7 A n c os lA ln lc fence st m (mailC m.kind m.term m.index m.prev m.commit m.good eA en ec m.data hA hn hc m.epoch m.site m.atN m.atE m.whN m.whE oA on oc pA pn pc) sN sE jA jn jc holes) (h11:Blk w b11 26 #[N,E]) (hQ:∀ a' w',Fr 161 a' [(0,b),(4,b4),(5,b5),(6,b6),(7,b7),(13,(w:Nat))]->Blk w' w 30 (mailC 10 0 0 0 0 true none 0 0 ⟨#[]⟩ none 0 0 m.epoch 0 N E 0 0 none 0 0 none 0 0)->Below w w w'->Q .normal a' w') :
 (part [1,1,1,1,1,1,1,1,0,1,0,0] (codeOf rmeetF)).wp prog Q a w:=by
 have c9:=h.g.k4.c1 9
 obtain⟨e0,e1⟩:=h11.cs 0 2
 have hn:=Blk.new w 30 noMail
 have HN:=J (hn.setCells_ (mailC 10 0 0 0 0 true none 0 0 ⟨#[]⟩ none 0 0 m.epoch 0 N E 0 0 none 0 0 none 0 0).toList rfl)
 have HT:=J (hn.there_ 0 17 (by show 0+17<=17;omega))
 have HB:=J (below_setCells (Nat.le_refl _) ((Below.refl _ _).alloc (Nat.le_refl _) _) 0 (mailC 10 0 0 0 0 true none 0 0 ⟨#[]⟩ none 0 0 m.epoch 0 N E 0 0 none 0 0 none 0 0).toList:Below w w ((w.alloc (.cells noMail 30)).setCells w.heap.size 0 (mailC 10 0 0 0 0 true none 0 0 ⟨#[]⟩ none 0 0 m.epoch 0 N E 0 0 none 0 0 none 0 0).toList))
 have HQ:=J hQ
 clear hQ h hn h11
 refine gg hfr fun t=>?_
 go_wp2_with (refine wpList_store_mid rfl 30 (.tmp 13) (.tmp 122) rfl w.heap.size 0 (mailC 10 0 0 0 0 true none 0 0 ⟨#[]⟩ none 0 0 m.epoch 0 N E 0 0 none 0 0 none 0 0) rfl rfl HT.out Try.sizeMail mailC_one ?_)
 exact HQ.out _ _ ff HN.out HB.out
theorem rm17 (hfr:Fr 161 a [(0,b),(4,b4),(5,b5),(6,b6),(7,b7),(13,b13)]) (h13:Blk w b13 30 (mailC 10 0 0 0 0 true none 0 0 ⟨#[]⟩ none 0 0 m.epoch 0 N E 0 0 none 0 0 none 0 0)) (hQ:∀ a' w',Fr 161 a' [(0,b),(4,b4),(5,b5),(6,b6),(7,b7),(13,b13),(14,(w:Nat))]->Blk w' w 30 (mailC 10 0 0 0 0 true none 0 0 ⟨#[]⟩ none 0 0 m.epoch 0 N E 0 0 none 0 0 none 0 0)->Below w w w'->Q .normal a' w') :
 (part [1,1,1,1,1,1,1,1,0,1,0,1,0] (codeOf rmeetF)).wp prog Q a w:=by
 have HR13:=J h13.range
 have hn:=Blk.new w 30 noMail
 have HN:=J (hn.setCells_ (mailC 10 0 0 0 0 true none 0 0 ⟨#[]⟩ none 0 0 m.epoch 0 N E 0 0 none 0 0 none 0 0).toList rfl)
 have HT:=J (hn.there_ 0 17 (by show 0+17<=17;omega))
 have HB:=J (below_setCells (Nat.le_refl _) ((Below.refl _ _).alloc (Nat.le_refl _) _) 0 (mailC 10 0 0 0 0 true none 0 0 ⟨#[]⟩ none 0 0 m.epoch 0 N E 0 0 none 0 0 none 0 0).toList:Below w w ((w.alloc (.cells noMail 30)).setCells w.heap.size 0 (mailC 10 0 0 0 0 true none 0 0 ⟨#[]⟩ none 0 0 m.epoch 0 N E 0 0 none 0 0 none 0 0).toList))
 have HQ:=J hQ
 clear hQ h13 hn
 refine gg hfr fun t=>?_
 go_wp2_with (first|refine wpList_load_mid rfl 30 (.tmp 13) rfl b13 0 rfl _ _ HR13.out underlying30 rfl Try.sizeMail ?_|refine wpList_store_mid rfl 30 (.tmp 14) (.tmp 123) rfl w.heap.size 0 (mailC 10 0 0 0 0 true none 0 0 ⟨#[]⟩ none 0 0 m.epoch 0 N E 0 0 none 0 0 none 0 0) rfl rfl HT.out Try.sizeMail mailC_one ?_)
 exact HQ.out _ _ ff HN.out HB.out
theorem rm18 (hfr:Fr 161 a [(0,b),(4,b4),(5,b5),(6,b6),(7,b7),(13,b13),(14,b14)]) (h:Rt W w b b4 b5 b6 b7 A n c os lA ln lc fence st m (mailC m.kind m.term m.index m.prev m.commit m.good eA en ec m.data hA hn hc m.epoch m.site m.atN m.atE m.whN m.whE oA on oc pA pn pc) sN sE jA jn jc holes) (h14:Blk w b14 30 (mailC 10 0 0 0 0 true none 0 0 ⟨#[]⟩ none 0 0 m.epoch 0 N E 0 0 none 0 0 none 0 0)) (hQ:∀ a' w',Fr 161 a' [(0,b),(4,b4),(5,b5),(6,b6),(7,b7),(13,b13),(14,b14)]->Blk w' b14 30 (mailC 10 0 0 0 0 true none 0 0 ⟨#[]⟩ none 0 0 m.epoch 0 N E sN sE none 0 0 none 0 0)->Below b14 w w'->Q .normal a' w') :
 (part [1,1,1,1,1,1,1,1,0,1,0,1,1,0] (codeOf rmeetF)).wp prog Q a w:=by
 obtain⟨c0,c1⟩:=h.k5.cs 0 2
 obtain⟨d13,d14⟩:=h14.cs 13 2
 have f13:=h14.frozen
 have HN:=J ((h14.set_ 13 (.int .i64 sN)).set_ 14 (.int .i64 sE))
 have HB:=J ((((Below.refl _ _).setCell (p:=⟨b14,13,none⟩) (Nat.le_refl _) (.int .i64 sN)).setCell (p:=⟨b14,14,none⟩) (Nat.le_refl _) (.int .i64 sE)):Below b14 w _)
 have HQ:=J hQ
 clear hQ h h14
 refine gg hfr fun t=>?_
 exact Y125
end
theorem rm19 (hjz:holes.length*8<=140737488351232) (Q:Z) (a:Act) (hfr:Fr 161 a [(0,b),(4,b4),(5,b5),(6,b6),(7,b7),(13,b13),(14,b14)]) (h:Rt W w b b4 b5 b6 b7 A n c os lA ln lc fence st m (mailC m.kind m.term m.index m.prev m.commit m.good eA en ec m.data hA hn hc m.epoch m.site m.atN m.atE m.whN m.whE oA on oc pA pn pc) sN sE jA jn jc holes) (h14:Blk w b14 30 (mailC 10 0 0 0 0 true none 0 0 ⟨#[]⟩ none 0 0 m.epoch 0 N E sN sE none 0 0 none 0 0)) (hQ:∀ a' w' A' c',Fr 161 a' [(0,b),(4,b4),(5,b5),(6,b6),(7,b7),(13,b13),(14,b14)]->Blk w' b14 30 (mailC 10 0 0 0 0 true none 0 0 ⟨#[]⟩ none 0 0 m.epoch 0 N E sN sE A' jn c' none 0 0)->IntIs w' (From w.heap.size) A' jn c' holes->Below b14 w w'->Q .normal a' w') :
 (part [1,1,1,1,1,1,1,1,0,1,0,1,1,1,0] (codeOf rmeetF)).wp prog Q a w:=by
 have hl:=h.ints.len
 have c2:=h.k5.c1 2
 have hb0:Below w w (w.alloc (.cells #[] 3)):=(Below.refl _ _).alloc (Nat.le_refl _) _
 have c2':(w.alloc (.cells #[] 3)).cell? ⟨b5,2,none⟩=some (.slice jA jn jc):=by
  have:=(h.k5.below hb0 h.k5.lt).cell 2
  simpa using this
 have HI:=J (h.ints.below hb0)
 have HZ:=J (show jn*8<=140737488351232 by omega)
 obtain⟨HB0,H14,HQ⟩:=J3 hb0 h14 hQ
 clear hQ h h14 hb0 hl hjz
 refine gg hfr fun t=>?_
 refine wp_region_lit ?_
 refine wpList_value' rfl (.slice (some ⟨w.heap.size,0,none⟩) 0 0) (w.alloc (.cells #[] 3)) (by unfold execOp;go_simp) ?_
 go_wp2_with (at_builtin;refine wpList_plain rfl fun _ hK=>wp_append_ints (.tmp 127) (.tmp 129) rfl ⟨w.heap.size,0,none⟩ rfl rfl HI.out HZ.out fun A' c' w2 hi hb=>hK _ _ ?_;have h2:=H14.out.below (HB0.out.trans (hb.mono HB0.out.size)) H14.out.lt;have d15:=h2.cell 15;simp at d15;have f15:=h2.frozen 15;have HI2:=J hi;have HB2:=J hb;clear hi hb h2)
 have hs0:(w.alloc (.cells #[] 3)).heap.size=w.heap.size+1:=by simp
 have hlt:=H14.out.lt
 have hb2:=HB0.out.trans (HB2.out.mono HB0.out.size)
 refine HQ.out _ _ A' c' ff ((H14.out.below hb2 hlt).set_ 15 (.slice A' jn c')) ((HI2.out.kept ((Kept.refl _ _).set_ ⟨b14,15,none⟩ (.inl fun h=>?_) _)).mono fun q _ hq=>?_) ((hb2.mono (Nat.le_of_lt hlt)).setCell (p:=⟨b14,15,none⟩) (Nat.le_refl _) _)
 ·have:(w.alloc (.cells #[] 3)).heap.size<=b14:=h
  omega
 ·have:(w.alloc (.cells #[] 3)).heap.size<=q:=hq
  show w.heap.size<=q
  omega
theorem rm21 (Q:Z) (a:Act) (hfr:Fr 161 a [(0,b),(4,b4),(5,b5),(6,b6),(7,b7),(13,b13),(14,b14)]) (h13:Blk w b13 30 (mailC 10 0 0 0 0 true none 0 0 ⟨#[]⟩ none 0 0 m.epoch 0 N E 0 0 none 0 0 none 0 0)) (h14:Blk w b14 30 (mailC 10 0 0 0 0 good none 0 0 ⟨#[]⟩ none 0 0 e 0 yN yE whN whE kA kn kc none 0 0)) (hQ:∀ a' w',Fr 161 a' [(0,b),(4,b4),(5,b5),(6,b6),(7,b7),(13,b13),(14,b14)]->Blk w' b13 30 (mailC 10 0 0 0 0 good none 0 0 ⟨#[]⟩ none 0 0 e 0 yN yE whN whE kA kn kc none 0 0)->Below b13 w w'->Kept (fun q=>q≠b13) w w'->Q .normal a' w') :
 (part [1,1,1,1,1,1,1,1,0,1,0,1,1,1,1,0,1,0] (codeOf rmeetF)).wp prog Q a w:=by
 have HR14:=J h14.range
 have HN:=J (h13.setCells_ (mailC 10 0 0 0 0 good none 0 0 ⟨#[]⟩ none 0 0 e 0 yN yE whN whE kA kn kc none 0 0).toList rfl)
 have HT:=J (h13.there_ 0 17 (by show 0+17<=17;omega))
 have HB:=J (below_setCells (Nat.le_refl _) (Below.refl _ _) 0 (mailC 10 0 0 0 0 good none 0 0 ⟨#[]⟩ none 0 0 e 0 yN yE whN whE kA kn kc none 0 0).toList:Below b13 w (w.setCells b13 0 (mailC 10 0 0 0 0 good none 0 0 ⟨#[]⟩ none 0 0 e 0 yN yE whN whE kA kn kc none 0 0).toList))
 have HK:=J ((Kept.refl (fun q=>q≠b13) w).cells b13 0 (.inl fun h=>h rfl) (mailC 10 0 0 0 0 good none 0 0 ⟨#[]⟩ none 0 0 e 0 yN yE whN whE kA kn kc none 0 0).toList)
 have HQ:=J hQ
 clear hQ h13 h14
 refine gg hfr fun t=>?_
 go_wp2_with (first|refine wpList_load_mid rfl 30 (.tmp 14) rfl b14 0 rfl _ _ HR14.out underlying30 rfl Try.sizeMail ?_|refine wpList_store_mid rfl 30 (.tmp 13) (.tmp 143) rfl b13 0 (mailC 10 0 0 0 0 good none 0 0 ⟨#[]⟩ none 0 0 e 0 yN yE whN whE kA kn kc none 0 0) rfl rfl HT.out Try.sizeMail mailC_one ?_)
 exact HQ.out _ _ ff HN.out HB.out HK.out
end
end
theorem rmgood {W w:World} {b b4 b5 b6 b7:Nat} {m:MailC} {eA:O} {en ec:Nat} {hA:O} {hn hc:Nat} {oA:O} {on oc:Nat} {pA:O} {pn pc n c:Nat} {A:O} {os:List OpC} {lA:O} {ln lc:Nat} {fence st sN sE:Int} {jA:O} {jn jc:Nat} {holes:List Int} {b11:Nat} {N E:Int} (R:Ending->World->Prop) {Q:Z} (hret:∀ a w,bodyPost prog rmeetF R .ret a w->Q .ret a w) (a:Act) (hfr:Fr 161 a [(0,b),(4,b4),(5,b5),(6,b6),(7,b7),(11,b11)]) (h:Rt W w b b4 b5 b6 b7 A n c os lA ln lc fence st m (mailC m.kind m.term m.index m.prev m.commit m.good eA en ec m.data hA hn hc m.epoch m.site m.atN m.atE m.whN m.whE oA on oc pA pn pc) sN sE jA jn jc holes) (h11:Blk w b11 26 #[N,E]) (hz:n<=4294967296) (hok:m.Ok) (hsN:I64 sN) (hsE:I64 sE) (hjz:holes.length*8<=140737488351232) (hj:∀ z∈holes,I64 z) (hN:I64 N) (hE:I64 E) (hR:∀ mc' w',MailIs w' (From W.heap.size) mc' (if (hasB os sN sE&&(ansM m.epoch true N E sN sE holes).right10)=true then ansM m.epoch true N E sN sE holes else ansM m.epoch true N E 0 0 [])->Below W W w'->R (.returned (.tuple #[.agg mc',.agg noCmd,.int .i64 1])) w') :
 (part [1,1,1,1,1,1,1,1,0,1,0] (codeOf rmeetF)).wp prog Q a w:=by
 have hlo:=h.lo
 have hl7:=h.k7.lt
 refine Ytaipgdhdfpemcaa.w2 ?_
 refine rm16 _ a hfr h h11 fun a1 w1 hf1 h13 hb1=>?_
 show (part [1,1,1,1,1,1,1,1,0,1,0,1] (codeOf rmeetF)).wp prog _ a1 w1
 have h1:=h.below hb1
 have hs13:=h13.lt
 refine Ytaipgdhdfpemcaa.w2 ?_
 refine rm17 _ a1 hf1 h13 fun a2 w2 hf2 h14 hb2=>?_
 show (part [1,1,1,1,1,1,1,1,0,1,0,1,1] (codeOf rmeetF)).wp prog _ a2 w2
 have h2:=h1.below hb2
 have h13:=h13.below hb2 h13.lt
 refine Ytaipgdhdfpemcaa.w2 ?_
 refine rm18 _ a2 hf2 h2 h14 fun a3 w3 hf3 h14 hb3=>?_
 show (part [1,1,1,1,1,1,1,1,0,1,0,1,1,1] (codeOf rmeetF)).wp prog _ a3 w3
 have h3:=h2.step (hb3.mono (by omega))
 have h13:=h13.below hb3 hs13
 refine Ytaipgdhdfpemcaa.w2 ?_
 refine rm19 hjz _ a3 hf3 h3 h14 fun a4 w4 A4 c4 hf4 h14 hi4 hb4=>?_
 show (part [1,1,1,1,1,1,1,1,0,1,0,1,1,1,1] (codeOf rmeetF)).wp prog _ a4 w4
 have h4:=h3.step (hb4.mono (by omega))
 have h13:=h13.below hb4 hs13
 have hy:=ansM_ok (good:=true) hok.epoch hN hE hsN hsE hjz hj
 have hya:=ansM_is m.epoch true N E sN sE hi4
 have hb14:=h14.lt
 have hs3:=hb3.size
 refine Ytaipgdhdfpemcaa.w2 ?_
 refine Ytaipgdhdfpemcaa.w2 ?_
 obtain⟨r,hr⟩:∃ r,r=hasB os sN sE:=⟨_,rfl⟩
 have h3l:=h3.k7.lt
 have hs2:=hb2.size
 have hs1:=hb1.size
 have hend:∀ a5 w5,Fr 161 a5 [(0,b),(4,b4),(5,b5),(6,b6),(7,b7),(13,(w:Nat))]->Rt W w5 b b4 b5 b6 b7 A n c os lA ln lc fence st m (mailC m.kind m.term m.index m.prev m.commit m.good eA en ec m.data hA hn hc m.epoch m.site m.atN m.atE m.whN m.whE oA on oc pA pn pc) sN sE jA jn jc holes->(∃ good e N0 E0 whN whE kA kn kc,Blk w5 w 30 (mailC 10 0 0 0 0 good none 0 0 ⟨#[]⟩ none 0 0 e 0 N0 E0 whN whE kA kn kc none 0 0)/\MailIs w5 (From w3.heap.size) (mailC 10 0 0 0 0 good none 0 0 ⟨#[]⟩ none 0 0 e 0 N0 E0 whN whE kA kn kc none 0 0) (if (hasB os sN sE&&(ansM m.epoch true N E sN sE holes).right10)=true then ansM m.epoch true N E sN sE holes else ansM m.epoch true N E 0 0 []))->(part [1,1,1,1,1,1,1,1,0,1,0,1,1,1,1,1] (codeOf rmeetF)).wp prog Q a5 w5:=by
  intro a5 w5 hf5 h5 ⟨good,e,N',E',whN,whE,kA,kn,kc,hk13,hm⟩
  obtain⟨hd5,hs5,f0,f4,f5,f6,f7,f13,-⟩:=hf5
  refine rm22 R hret a5 ⟨hd5,hs5,f0,f4,f5,f6,f7,f13,trivial⟩ h5 hk13 fun w6 hb6 hk6=>?_
  exact hR _ _ ((hm.kept (hk6.mono fun q _ hq=>(show q≠b6/\q≠b7 from by have:w3.heap.size<=q:=hq;omega))).mono fun q _ hq=>(show W.heap.size<=q from by have:w3.heap.size<=q:=hq;have:=h3.bel.size;omega)) hb6
 cases r with
 | true=>
  obtain⟨r2,hr2⟩:∃ r2,r2=(ansM m.epoch true N E sN sE holes).right10:=⟨_,rfl⟩
  refine rm20t h4.k5 h14 hya hz hr hr2 rfl hy _ a4 hf4 h4.g fun a5 w5 hf5 hb5=>?_
  show (part [1,1,1,1,1,1,1,1,0,1,0,1,1,1,1,0,1] (codeOf rmeetF)).wp prog _ a5 w5
  have h5:=h4.below hb5
  have h13:=h13.below hb5 h13.lt
  have h14:=h14.below hb5 h14.lt
  have hmy:=hya.below hb5
  obtain⟨hd5,hs5,f0,f4,f5,f6,f7,f13,f14,f142,-⟩:=hf5
  refine wp_if (o:=.tmp 142) (x:=part [1,1,1,1,1,1,1,1,0,1,0,1,1,1,1,0,1,0] (codeOf rmeetF)) (y:=part [1,1,1,1,1,1,1,1,0,1,0,1,1,1,1,0,1,1] (codeOf rmeetF)) (t:=r2) kr (eval_at f142 rfl) ?_ ?_
  ·intro ht
   subst ht
   refine rm21 _ a5 ⟨hd5,hs5,f0,f4,f5,f6,f7,f13,f14,trivial⟩ h13 h14 fun a6 w6 hf6 h13' hb6 hk6=>?_
   show (part [1,1,1,1,1,1,1,1,0,1,0,1,1,1,1,1] (codeOf rmeetF)).wp prog Q a6 w6
   obtain⟨hd6,hs6,g0,g4,g5,g6,g7,g13,g14,-⟩:=hf6
   refine hend a6 w6 ⟨hd6,hs6,g0,g4,g5,g6,g7,g13,trivial⟩ (h5.step (hb6.mono (by omega))) ⟨_,_,_,_,_,_,_,_,_,h13',?_⟩
   rw [if_pos (by rw [<-hr,<-hr2];rfl)]
   exact hmy.kept (hk6.mono fun q _ hq=>(show q≠w.heap.size from by have:w3.heap.size<=q:=hq;omega))
  ·intro ht
   subst ht
   refine wp_nop kr ?_
   show (part [1,1,1,1,1,1,1,1,0,1,0,1,1,1,1,1] (codeOf rmeetF)).wp prog Q a5 w5
   refine hend a5 w5 ⟨hd5,hs5,f0,f4,f5,f6,f7,f13,trivial⟩ h5 ⟨_,_,_,_,_,_,_,_,_,h13,?_⟩
   rw [if_neg (by rw [<-hr,<-hr2];decide)]
   exact ansM_is _ _ _ _ _ _ (ints_nil _ _)
 | false=>
  refine rm20f h4.k5 h14 hya hz hr _ a4 hf4 h4.g fun a5 w5 hf5 hb5=>?_
  show (part [1,1,1,1,1,1,1,1,0,1,0,1,1,1,1,0,1] (codeOf rmeetF)).wp prog _ a5 w5
  have h5:=h4.below hb5
  have h13:=h13.below hb5 h13.lt
  obtain⟨hd5,hs5,f0,f4,f5,f6,f7,f13,f14,f142,-⟩:=hf5
  refine wp_if (o:=.tmp 142) (x:=part [1,1,1,1,1,1,1,1,0,1,0,1,1,1,1,0,1,0] (codeOf rmeetF)) (y:=part [1,1,1,1,1,1,1,1,0,1,0,1,1,1,1,0,1,1] (codeOf rmeetF)) (t:=false) kr (eval_at f142 rfl) ?_ ?_
  ·exact fun ht=>absurd ht (by decide)
  ·intro ht
   refine wp_nop kr ?_
   show (part [1,1,1,1,1,1,1,1,0,1,0,1,1,1,1,1] (codeOf rmeetF)).wp prog Q a5 w5
   refine hend a5 w5 ⟨hd5,hs5,f0,f4,f5,f6,f7,f13,trivial⟩ h5 ⟨_,_,_,_,_,_,_,_,_,h13,?_⟩
   rw [if_neg (by rw [<-hr];simp)]
   exact ansM_is _ _ _ _ _ _ (ints_nil _ _)
def RmI (W:World) (b b4 b5 b6 b7 b11:Nat) (A:O) (n c:Nat) (os:List OpC) (lA:O) (ln lc:Nat) (fence st:Int) (m:MailC) (mc:Array Value) (sN sE:Int) (jA:O) (jn jc:Nat) (holes:List Int) (e0:Bool) (a:Act) (w:World):Prop:=
 ∃ (k:Nat) (al:Bool),k<=m.ops.length/\Fr 161 a [(0,b),(4,b4),(5,b5),(6,b6),(7,b7),(10,al),(11,b11),(12,.int .i64 (k:Nat))]/\Rt W w b b4 b5 b6 b7 A n c os lA ln lc fence st m mc sN sE jA jn jc holes/\Blk w b11 26 #[.int .i64 (endC m.atN m.atE (m.ops.take k)).1,.int .i64 (endC m.atN m.atE (m.ops.take k)).2]/\al=(e0&&(m.ops.take k).all fun o=>hasB os o.n o.epoch)
def muRm (n:Nat) (a:Act):Nat:=n-(match at_ a.tmps 12 with|.int _ k=>k.toNat|_=>0)
section
variable {mc:Array Value} {e0:Bool} {E N fence sE sN st:Int} {holes:List Int} {l os:List OpC} {m:MailC} {b b11 b4 b5 b6 b7 b9 c ec en hc hn jc jn lc ln n oc on pc pn:Nat} {Sj Sm Sx:Nat->Prop} {A eA hA jA lA oA pA:O} {o:OpC} {W w:World} {Q:Z}
theorem endC_snoc:endC N E (l++[o])=(o.n,o.epoch):=by
 unfold endC
 rw [List.getLast?_append]
 rfl
theorem rmloop (a:Act) (hfr:Fr 161 a [(0,b),(4,b4),(5,b5),(6,b6),(7,b7),(10,e0),(11,b11)]) (h:Rt W w b b4 b5 b6 b7 A n c os lA ln lc fence st m (mailC m.kind m.term m.index m.prev m.commit m.good eA en ec m.data hA hn hc m.epoch m.site m.atN m.atE m.whN m.whE oA on oc pA pn pc) sN sE jA jn jc holes) (h11:Blk w b11 26 #[m.atN,m.atE]) (hlt:b7<b11) (hz:n<=4294967296) (hmz:m.ops.length<=4294967295) (hQ:∀ a' w' al,Fr 161 a' [(0,b),(4,b4),(5,b5),(6,b6),(7,b7),(10,.bool al),(11,b11)]->Rt W w' b b4 b5 b6 b7 A n c os lA ln lc fence st m (mailC m.kind m.term m.index m.prev m.commit m.good eA en ec m.data hA hn hc m.epoch m.site m.atN m.atE m.whN m.whE oA on oc pA pn pc) sN sE jA jn jc holes->Blk w' b11 26 #[.int .i64 (endC m.atN m.atE m.ops).1,.int .i64 (endC m.atN m.atE m.ops).2]->al=(e0&&m.ops.all fun o=>hasB os o.n o.epoch)->Q .normal a' w') :
 (part [1,1,1,1,1,1,1,0] (codeOf rmeetF)).wp prog Q a w:=by
 have round:∀ (Q:Z) (hexit:∀ a' w' al,Fr 161 a' [(0,b),(4,b4),(5,b5),(6,b6),(7,b7),(10,.bool al),(11,b11)]->Rt W w' b b4 b5 b6 b7 A n c os lA ln lc fence st m (mailC m.kind m.term m.index m.prev m.commit m.good eA en ec m.data hA hn hc m.epoch m.site m.atN m.atE m.whN m.whE oA on oc pA pn pc) sN sE jA jn jc holes->Blk w' b11 26 #[.int .i64 (endC m.atN m.atE m.ops).1,.int .i64 (endC m.atN m.atE m.ops).2]->al=(e0&&m.ops.all fun o=>hasB os o.n o.epoch)->Q (.exit 0) a' w')
  (a:Act) (w:World),RmI W b b4 b5 b6 b7 b11 A n c os lA ln lc fence st m (mailC m.kind m.term m.index m.prev m.commit m.good eA en ec m.data hA hn hc m.epoch m.site m.atN m.atE m.whN m.whE oA on oc pA pn pc) sN sE jA jn jc holes e0 a w->(∀ a' w',RmI W b b4 b5 b6 b7 b11 A n c os lA ln lc fence st m (mailC m.kind m.term m.index m.prev m.commit m.good eA en ec m.data hA hn hc m.epoch m.site m.atN m.atE m.whN m.whE oA on oc pA pn pc) sN sE jA jn jc holes e0 a' w'/\muRm m.ops.length a'<muRm m.ops.length a->Q .normal a' w')->(part [1,1,1,1,1,1,1,0,1,0,0] (codeOf rmeetF)).wp prog Q a w:=by
  intro Q hexit a w ⟨k,al,hk,hf,h,h11,hal⟩ hQ
  have hpn:pn=m.ops.length:=by
   obtain⟨_,_,_,_,_,_,_,_,_,xA,xn,xc,he,_,_,_,hops⟩:=h.mail
   have he2:=congrArg (fun c=>c[16]?) he
   simp at he2
   obtain⟨rfl,rfl,rfl⟩:=he2
   exact hops.len.symm
  have hmu:at_ a.tmps 12=.int .i64 (k:Nat):=hf.2.2.2.2.2.2.2.2.2.1
  refine Ytaipgdhdfpemcaa.w2 ?_
  refine Ytaipgdhdfpemcaa.w2 ?_
  refine rm11 _ a hf h fun a1 hf1=>?_
  show (part [1,1,1,1,1,1,1,0,1,0,0,0,1] (codeOf rmeetF)).wp prog _ a1 w
  obtain⟨hd,hs,f0,f4,f5,f6,f7,f10,f11,f12,f100,-⟩:=hf1
  refine wp_if (o:=.tmp 100) (x:=part [1,1,1,1,1,1,1,0,1,0,0,0,1,0] (codeOf rmeetF)) (y:=part [1,1,1,1,1,1,1,0,1,0,0,0,1,1] (codeOf rmeetF)) (t:=decide (k<pn)) kr (eval_at f100 rfl) ?_ ?_
  ·intro ht
   have hk1:k<m.ops.length:=by have:=of_decide_eq_true ht;omega
   obtain⟨o,ho⟩:∃ o,m.ops[k]? = some o:=⟨_,List.getElem?_eq_getElem hk1⟩
   have htk:m.ops.take (k+1)=m.ops.take k++[o]:=take_snoc ho
   refine wp_nop kr ?_
   show (part [1,1,1,1,1,1,1,0,1,0,0,1] (codeOf rmeetF)).wp prog Q a1 w
   refine Ytaipgdhdfpemcaa.w2 ?_
   refine wp_blk (x:=part [1,1,1,1,1,1,1,0,1,0,0,1,0,0] (codeOf rmeetF)) (id:=1) kr ?_
   refine Ytaipgdhdfpemcaa.w2 ?_
   refine rm13 ho _ a1 ⟨hd,hs,f0,f4,f5,f6,f7,f10,f11,f12,trivial⟩ h h11 fun a2 w2 hf2 h11 hb2=>?_
   show (part [1,1,1,1,1,1,1,0,1,0,0,1,0,0,1] (codeOf rmeetF)).wp prog _ a2 w2
   have h2:=h.step (hb2.mono (by omega))
   have hfin:∀ a3 w3 al',Fr 161 a3 [(0,b),(4,b4),(5,b5),(6,b6),(7,b7),(10,.bool al'),(11,b11),(12,.int .i64 (k:Nat))]->Below w2 w2 w3->al'=(al&&hasB os o.n o.epoch)->(part [1,1,1,1,1,1,1,0,1,0,0,1,1] (codeOf rmeetF)).wp prog Q a3 w3:=by
    intro a3 w3 al' hf3 hb3 hal'
    refine rm12 (by omega) _ a3 hf3 fun a4 hf4=>hQ a4 w3 ⟨⟨k+1,al',by omega,hf4,h2.below hb3,?_,?_⟩,?_⟩
    ·rw [htk,endC_snoc]
     exact h11.below hb3 h11.lt
    ·rw [htk,List.all_append,hal',hal,Bool.and_assoc]
     simp
    ·have e2:at_ a4.tmps 12=.int .i64 ((k+1:Nat):Nat):=hf4.2.2.2.2.2.2.2.2.2.1
     unfold muRm
     rw [hmu,e2]
     exact Y114
   cases al with
   | true=>
    obtain⟨r,hr⟩:∃ r,r=hasB os o.n o.epoch:=⟨_,rfl⟩
    refine rm14t h11 hz hr _ a2 hf2 h2.g fun a3 w3 hf3 hb3=>?_
    show (part [1,1,1,1,1,1,1,0,1,0,0,1,1] (codeOf rmeetF)).wp prog Q a3 w3
    obtain⟨hd3,hs3,g0,g4,g5,g6,g7,g11,g12,g10,-⟩:=hf3
    exact hfin a3 w3 r ⟨hd3,hs3,g0,g4,g5,g6,g7,g10,g11,g12,trivial⟩ hb3 (by rw [hr,Bool.true_and])
   | false=>
    refine rm14f h11 _ a2 hf2 h2.g fun a3 w3 hf3 hb3=>?_
    show (part [1,1,1,1,1,1,1,0,1,0,0,1,1] (codeOf rmeetF)).wp prog Q a3 w3
    obtain⟨hd3,hs3,g0,g4,g5,g6,g7,g11,g12,g10,-⟩:=hf3
    exact hfin a3 w3 false ⟨hd3,hs3,g0,g4,g5,g6,g7,g10,g11,g12,trivial⟩ hb3 (by rw [Bool.false_and])
  ·intro ht
   have hk1:k=m.ops.length:=by have:=of_decide_eq_false ht;omega
   subst hk1
   rw [List.take_length] at h11 hal
   have e:part [1,1,1,1,1,1,1,0,1,0,0,0,1,1] (codeOf rmeetF)=Code.exit 0:=by kernel_rfl
   rw [e]
   exact wp_exit (hexit a1 w al ⟨hd,hs,f0,f4,f5,f6,f7,f10,f11,trivial⟩ h h11 hal)
 refine Ytaipgdhdfpemcaa.w2 ?_
 refine rm10 _ a hfr fun a1 hf1=>?_
 show (part [1,1,1,1,1,1,1,0,1] (codeOf rmeetF)).wp prog _ a1 w
 refine wp_blk (x:=part [1,1,1,1,1,1,1,0,1,0] (codeOf rmeetF)) (id:=0) kr ?_
 have el:part [1,1,1,1,1,1,1,0,1,0] (codeOf rmeetF)=Code.loop (part [1,1,1,1,1,1,1,0,1,0,0] (codeOf rmeetF)):=by kernel_rfl
 rw [el]
 refine wp_loop (RmI W b b4 b5 b6 b7 b11 A n c os lA ln lc fence st m (mailC m.kind m.term m.index m.prev m.commit m.good eA en ec m.data hA hn hc m.epoch m.site m.atN m.atE m.whN m.whE oA on oc pA pn pc) sN sE jA jn jc holes e0) (fun a _=>muRm m.ops.length a) ⟨0,e0,Nat.zero_le _,hf1,h,h11,by simp⟩ fun a2 w2 hI=>?_
 refine round _ ?_ a2 w2 hI ?_
 ·exact fun a' w' al hf h h11 hal=>hQ a' w' al hf h h11 hal
 ·exact fun a' w' hh=>hh
theorem rmbody (R:Ending->World->Prop) (a:Act) (hfr:Fr 161 a [(0,b),(4,b4),(5,b5),(6,b6),(7,b7),(9,b9)]) (h:Rt W w b b4 b5 b6 b7 A n c os lA ln lc fence st m (mailC m.kind m.term m.index m.prev m.commit m.good eA en ec m.data hA hn hc m.epoch m.site m.atN m.atE m.whN m.whE oA on oc pA pn pc) sN sE jA jn jc holes) (h9:Blk w b9 93 #[.int .i64 (holderC os).1,.int .i64 (holderC os).2]) (hz:n<=4294967296) (hmz:m.ops.length<=4294967295) (hok:m.Ok) (hsN:I64 sN) (hsE:I64 sE) (hjz:holes.length*8<=140737488351232) (hj:∀ z∈holes,I64 z) (hR:∀ x w',MeetR W (meetP os fence m sN sE holes) x w'->R x w') :
 (part [1,1] (codeOf rmeetF)).wp prog (bodyPost prog rmeetF R) a w:=by
 have hlo:=h.lo
 have hRR:=hR
 refine Ytaipgdhdfpemcaa.w2 ?_
 refine Ytaipgdhdfpemcaa.w2 ?_
 refine rm2 (by omega) hok _ a hfr h h9 fun a1 w1 hf1 hb1=>?_
 show (part [1,1,0,1] (codeOf rmeetF)).wp prog _ a1 w1
 have h1:=h.below hb1
 obtain⟨hd1,hs1,f0,f4,f5,f6,f7,f38,-⟩:=hf1
 refine wp_if (o:=.tmp 38) (x:=part [1,1,0,1,0] (codeOf rmeetF)) (y:=part [1,1,0,1,1] (codeOf rmeetF)) (t:=!(decide ((m.kind=9/\m.right9=true)/\¬ (m.epoch=(holderC os).1/\m.site≠(holderC os).2)))) kr (eval_at f38 rfl) ?_ ?_
 ·intro ht
  have ht':¬ ((m.kind=9/\m.right9=true)/\¬ (m.epoch=(holderC os).1/\m.site≠(holderC os).2)):=of_decide_eq_false (by rw [Bool.not_eq_true'] at ht;exact ht)
  refine rm3 R (by exact fun a w h=>h) a1 ⟨hd1,hs1,f0,f4,f5,f6,f7,trivial⟩ h1 fun w3 hb3 hk3=>?_
  exact Y191
 ·intro ht
  have ht':(m.kind=9/\m.right9=true)/\¬ (m.epoch=(holderC os).1/\m.site≠(holderC os).2):=Decidable.of_not_not fun hn=>by rw [decide_eq_false hn] at ht;exact absurd ht (by decide)
  unfold meetP at hR
  rw [if_pos ht'] at hR
  refine wp_nop kr ?_
  show (part [1,1,1] (codeOf rmeetF)).wp prog _ a1 w1
  refine Ytaipgdhdfpemcaa.w2 ?_
  refine Ytaipgdhdfpemcaa.w2 ?_
  refine rm4 _ a1 ⟨hd1,hs1,f0,f4,f5,f6,f7,trivial⟩ h1.g fun a2 w2 hf2 hb2=>?_
  show (part [1,1,1,0,1] (codeOf rmeetF)).wp prog _ a2 w2
  have h2:=h1.below hb2
  obtain⟨hd2,hs2,g0,g4,g5,g6,g7,g47,-⟩:=hf2
  refine wp_if (o:=.tmp 47) (x:=part [1,1,1,0,1,0] (codeOf rmeetF)) (y:=part [1,1,1,0,1,1] (codeOf rmeetF)) (t:=decide (m.epoch<fence)) kr (eval_at g47 rfl) ?_ ?_
  ·intro hlt
   have hlt':=of_decide_eq_true hlt
   rw [if_pos hlt'] at hR
   refine rm5 R (by exact fun a w h=>h) a2 ⟨hd2,hs2,g0,g4,g5,g6,g7,trivial⟩ h2 fun w5 hb5 hk5=>?_
   exact hR _ _ ⟨_,_,rfl,ansM_is _ _ _ _ _ _ (ints_nil _ _),cmdZ_is _ _,hb5⟩
  ·intro hlt
   have hlt':=of_decide_eq_false hlt
   rw [if_neg hlt'] at hR
   refine wp_nop kr ?_
   show (part [1,1,1,1] (codeOf rmeetF)).wp prog _ a2 w2
   have htail:∀ a3 w3,Fr 161 a3 [(0,b),(4,b4),(5,b5),(6,b6),(7,b7)]->Rt W w3 b b4 b5 b6 b7 A n c os lA ln lc fence st m (mailC m.kind m.term m.index m.prev m.commit m.good eA en ec m.data hA hn hc m.epoch m.site m.atN m.atE m.whN m.whE oA on oc pA pn pc) sN sE jA jn jc holes->(m.epoch=fence->hasB os m.atN m.atE=true)->(part [1,1,1,1,1] (codeOf rmeetF)).wp prog (bodyPost prog rmeetF R) a3 w3:=by
    intro a3 w3 hf3 h3 hhas
    refine Ytaipgdhdfpemcaa.w2 ?_
    refine rm8 _ a3 hf3 h3.g fun a4 w4 hf4 hb4=>?_
    show (part [1,1,1,1,1,1] (codeOf rmeetF)).wp prog _ a4 w4
    have h4:=h3.below hb4
    refine Ytaipgdhdfpemcaa.w2 ?_
    refine rm9 _ a4 hf4 h4 fun a5 w5 hf5 h11 hb5=>?_
    show (part [1,1,1,1,1,1,1] (codeOf rmeetF)).wp prog _ a5 w5
    have h5:=h4.below hb5
    have hl7:=h4.k7.lt
    refine Ytaipgdhdfpemcaa.w2 ?_
    refine rmloop a5 hf5 h5 h11 (by omega) hz hmz fun a6 w6 al hf6 h6 h11 hal=>?_
    show (part [1,1,1,1,1,1,1,1] (codeOf rmeetF)).wp prog _ a6 w6
    refine Ytaipgdhdfpemcaa.w2 ?_
    refine Ytaipgdhdfpemcaa.w2 ?_
    refine rm15 _ a6 hf6 fun a7 hf7=>?_
    show (part [1,1,1,1,1,1,1,1,0,1] (codeOf rmeetF)).wp prog _ a7 w6
    obtain⟨hd7,hs7,k0,k4,k5,k6,k7,k11,k118,-⟩:=hf7
    have hen:=endC_ok hok.atN hok.atE hok.op
    refine wp_if (o:=.tmp 118) (x:=part [1,1,1,1,1,1,1,1,0,1,0] (codeOf rmeetF)) (y:=part [1,1,1,1,1,1,1,1,0,1,1] (codeOf rmeetF)) (t:=al) kr (eval_at k118 rfl) ?_ ?_
    ·intro ha
     rw [ha] at hal
     have hal':=hal.symm
     rw [Bool.and_eq_true,beq_iff_eq] at hal'
     refine rmgood R (by exact fun a w h=>h) a7 ⟨hd7,hs7,k0,k4,k5,k6,k7,k11,trivial⟩ h6 h11 hz hok hsN hsE hjz hj hen.1 hen.2 fun mc' w7 hm7 hb7=>?_
     refine hR _ _ ?_
     rw [if_neg (by rw [hhas hal'.1];simp),if_pos hal']
     exact⟨_,_,rfl,hm7,cmdZ_is _ _,hb7⟩
    ·intro ha
     rw [ha] at hal
     refine wp_nop kr ?_
     show (part [1,1,1,1,1,1,1,1,1] (codeOf rmeetF)).wp prog _ a7 w6
     obtain⟨_,_,_,_,_,_,_,_,_,xA,xn,xc,hec,_,_,_,hops⟩:=h6.mail
     have he2:=congrArg (fun c=>c[16]?) hec
     simp at he2
     obtain⟨rfl,rfl,rfl⟩:=he2
     have hpl:=hops.len
     refine rmprop R W.heap.size W a7 w6 b4 b6 b7 ⟨hd7,hs7,k4,k6,k7,trivial⟩ h6.g.k4 hops (by omega) hok.op ⟨_,h6.k6,rfl⟩ ⟨_,h6.k7,rfl⟩ ⟨by omega,by omega,by omega,by omega,by omega⟩ ⟨by omega,by omega⟩ h6.bel fun A' c' w7 hb7 hi7=>?_
     refine hR _ _ ?_
     rw [if_neg (fun hh=>by rw [hhas hh.1] at hh;exact absurd hh.2 (by decide)),if_neg (fun hh=>by rw [hh.2,Bool.and_true] at hal;exact beq_eq_false_iff_ne.1 hal.symm hh.1)]
     exact⟨_,_,rfl,mailZ_is _ _,propC_is m hi7,hb7⟩
   refine Ytaipgdhdfpemcaa.w2 ?_
   refine Ytaipgdhdfpemcaa.w2 ?_
   by_cases heq:m.epoch=fence
   ·obtain⟨r,hr⟩:∃ r,r=hasB os m.atN m.atE:=⟨_,rfl⟩
    refine rm6t hz hr (by simp [heq]) _ a2 ⟨hd2,hs2,g0,g4,g5,g6,g7,trivial⟩ h2.g fun a3 w3 hf3 hb3=>?_
    show (part [1,1,1,1,0,1] (codeOf rmeetF)).wp prog _ a3 w3
    have h3:=h2.below hb3
    obtain⟨hd3,hs3,l0,l4,l5,l6,l7,l70,-⟩:=hf3
    refine wp_if (o:=.tmp 70) (x:=part [1,1,1,1,0,1,0] (codeOf rmeetF)) (y:=part [1,1,1,1,0,1,1] (codeOf rmeetF)) (t:=!r) kr (eval_at l70 rfl) ?_ ?_
    ·intro ht
     have hr0:r=false:=by simpa using ht
     refine rm7 R (by exact fun a w h=>h) W.heap.size W a3 w3 b5 b6 b7 ⟨hd3,hs3,l0,l4,l5,l6,l7,trivial⟩ h3.g hz ⟨_,h3.k6,rfl⟩ ⟨_,h3.k7,rfl⟩ ⟨by omega,by omega,by omega,by omega,by omega,by omega,by omega⟩ ⟨by omega,by omega⟩ h3.bel fun w4 hb4=>?_
     refine hR _ _ ?_
     rw [if_pos ⟨heq,by rw [<-hr,hr0]⟩]
     exact⟨_,_,rfl,ansM_is _ _ _ _ _ _ (ints_nil _ _),cmdZ_is _ _,hb4⟩
    ·intro ht
     have hr1:r=true:=by simpa using ht
     refine wp_nop kr ?_
     exact htail a3 w3 ⟨hd3,hs3,l0,l4,l5,l6,l7,trivial⟩ h3 fun _=>by rw [<-hr,hr1]
   ·refine rm6f (by simp [heq]) _ a2 ⟨hd2,hs2,g0,g4,g5,g6,g7,trivial⟩ h2.g fun a3 w3 hf3 hb3=>?_
    show (part [1,1,1,1,0,1] (codeOf rmeetF)).wp prog _ a3 w3
    have h3:=h2.below hb3
    obtain⟨hd3,hs3,l0,l4,l5,l6,l7,l70,-⟩:=hf3
    refine wp_if (o:=.tmp 70) (x:=part [1,1,1,1,0,1,0] (codeOf rmeetF)) (y:=part [1,1,1,1,0,1,1] (codeOf rmeetF)) (t:=false) kr (eval_at l70 rfl) ?_ ?_
    ·exact fun ht=>absurd ht (by decide)
    ·intro ht
     refine wp_nop kr ?_
     exact htail a3 w3 ⟨hd3,hs3,l0,l4,l5,l6,l7,trivial⟩ h3 fun hh=>absurd hh heq
theorem rmeet_any (w:World) (hg:Blk w b 62 (rledC A n c lA ln lc fence st)) (ho:OpsIs w Sx A n c os) (hm:MailIs w Sm mc m) (hj_:IntIs w Sj jA jn jc holes) (hz:n<=4294967296) (hmz:m.ops.length<=4294967295) (hok:m.Ok) (hsN:I64 sN) (hsE:I64 sE) (hjz:holes.length*8<=140737488351232) (hj:∀ z∈holes,I64 z) :
 Calls prog 18 #[.pointer (some ⟨b,0,none⟩),.agg mc,.agg #[sN,sE,.slice jA jn jc]] w (MeetR w (meetP os fence m sN sE holes)):=by
 have hm_:=hm
 obtain⟨eA,en,ec,hA,hn,hc,oA,on,oc,pA,pn,pc,rfl,_⟩:=hm
 have hm:MailIs w (fun b=>b<w) (mailC m.kind m.term m.index m.prev m.commit m.good eA en ec m.data hA hn hc m.epoch m.site m.atN m.atE m.whN m.whE oA on oc pA pn pc) m:=hm_.mono fun b hb _=>hb
 have hj1:IntIs w (fun b=>b<w) jA jn jc holes:=hj_.mono fun b hb _=>hb
 have ho1:OpsIs w (fun b=>b<w) A n c os:=ho.mono fun b hb _=>hb
 obtain⟨w4,hw4,hs4,hb4,k4,k5,k6,k7⟩:=meet_boxes w (mailC m.kind m.term m.index m.prev m.commit m.good eA en ec m.data hA hn hc m.epoch m.site m.atN m.atE m.whN m.whE oA on oc pA pn pc) #[sN,sE,.slice jA jn jc]
 have hg4:=hg.below hb4 hg.lt
 have ho4:=ho1.below hb4
 have hgl:=hg.lt
 have hmt:Rt w w4 b w.heap.size (w.heap.size+1) (w.heap.size+2) (w.heap.size+3) A n c os lA ln lc fence st m (mailC m.kind m.term m.index m.prev m.commit m.good eA en ec m.data hA hn hc m.epoch m.site m.atN m.atE m.whN m.whE oA on oc pA pn pc) sN sE jA jn jc holes:=⟨⟨hg4,ho4,k4⟩,hm.below hb4,k5,hj1.below hb4,k6,k7,hb4,Nat.le_refl _,by omega,by omega,by omega,hgl⟩
 have hld:=rholder_any w4 hg4 ho4 hz
 obtain⟨HW4,HMT,HLD,HZ,HMZ,HOK,HN,HE,HJZ⟩:=J9 hw4 hmt hld hz hmz hok hsN hsE hjz
 have HJ:=J hj
 clear hw4 hs4 hb4 k4 k5 k6 k7 hg4 ho4 hmt hld hm hj1 ho1 hm_ hj_ hg ho hz hmz hok hsN hsE hjz hj hgl
 go_enter func18,ntmps18
 conv=>arg 2;arg 2;arg 2;change part [1,1] (codeOf rmeetF)
 go_wp2_with fail
 rw [<-HW4.out]
 refine HLD.out.mono ?_
 rintro e w5 ⟨rfl,hb5⟩
 have hb6:=hb5.alloc hb5.size (.cells #[.int .i64 (holderC os).1,.int .i64 (holderC os).2] 93)
 have HB6:=J hb6
 have HK9:=J (Blk.new w5 93 #[.int .i64 (holderC os).1,.int .i64 (holderC os).2])
 clear hb5 hb6
 go_wp2_with fail
 exact rmbody (W:=w) _ _ ff (HMT.out.below HB6.out) HK9.out HZ.out HMZ.out HOK.out HN.out HE.out HJZ.out HJ.out fun x w' h=>h
end
end Go.Proofs.Ytaipgdhdfpemcaa
