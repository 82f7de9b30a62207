/- THE WALKS OF THE LANE, part 44. -/
import Derived.Test.YtaipgdhdfpemcaaF42
namespace Go.Proofs.Ytaipgdhdfpemcaa
set_option linter.all false
open Go.RowKit Go.Proofs.Try
set_option maxRecDepth 100000
set_option maxHeartbeats 4000000
section
variable {good:Bool} {data:ByteArray} {aE aN commit epoch index kind prev site term whE whN:Int} {ops:List OpC} {c ec en hc hn n oc on pc pn:Nat} {Sx:Nat->Prop} {A eA hA oA pA:O}
theorem propCells_one:(#[.int .i64 3,.int .i64 epoch,.int .i64 site,.int .i64 0,.int .i64 0,.int .i64 0,.int .i64 0,.int .i64 0,.int .i64 0,.string ⟨#[]⟩,.int .i64 0,.slice none 0 0,.int .i64 aN,.int .i64 aE,.slice A n c,.int .i64 0]:Array Value).all (·.oneCell')=true:=all_oneCell_toArray (by
 intro v hv
 simp only [List.mem_cons,List.not_mem_nil,or_false] at hv
 rcases hv with rfl|rfl|rfl|rfl|rfl|rfl|rfl|rfl|rfl|rfl|rfl|rfl|rfl|rfl|rfl|rfl<;>rfl)
theorem mprop (R:Ending->World->Prop) (B:Nat) (W0:World) (a:Act) (w:World) (b4 b6 b7:Nat) (hfr:Fr 128 a [(4,b4),(6,b6),(7,b7)]) (h4:Blk w b4 30 (mailC kind term index prev commit good eA en ec data hA hn hc epoch site aN aE whN whE oA on oc pA pn pc)) (ho:OpsIs w Sx pA pn pc ops) (hz:pn<=4294967296) (hok:∀ o∈ops,o.Ok) (h6:∃ cs,Blk w b6 30 cs/\cs.size=17) (h7:∃ cs,Blk w b7 47 cs/\cs.size=16) (hne:b6≠b7/\b4≠b6/\b4≠b7/\¬ Sx b6/\¬ Sx b7) (hlo:B<=b6/\B<=b7) (hb:Below B W0 w) (hR:∀ A' c' w',Below B W0 w'->OpsIs w' (From B) A' pn c' ops->R (.returned (.tuple #[.agg noMail,.agg #[.int .i64 3,.int .i64 epoch,.int .i64 site,.int .i64 0,.int .i64 0,.int .i64 0,.int .i64 0,.int .i64 0,.int .i64 0,.string ⟨#[]⟩,.int .i64 0,.slice none 0 0,.int .i64 aN,.int .i64 aE,.slice A' pn c',.int .i64 0],.int .i64 2])) w') :
 (part [1,1,1,1,1,1,1] (codeOf meetF)).wp prog (bodyPost prog meetF R) a w:=by
 obtain⟨cs6,k6,z6⟩:=h6
 obtain⟨cs7,k7,z7⟩:=h7
 have hbb:b6<w.drew.heap.size/\b7<w.drew.heap.size/\B<=b6:=⟨k6.lt,k7.lt,hlo.1⟩
 have hg:(Blk w.drew b4 30 (mailC kind term index prev commit good eA en ec data hA hn hc epoch site aN aE whN whE oA on oc pA pn pc)/\OpsIs w.drew Sx pA pn pc ops/\Below B W0 w.drew/\w.drew.heap.size<=w.drew.heap.size)/\(∃ cs,Blk w.drew b6 30 cs/\cs.size=17)/\(∃ cs,Blk w.drew b7 47 cs/\cs.size=16):=
  ⟨⟨h4,ho.below ⟨rfl,rfl,rfl,Nat.le_refl _,fun _ _=>rfl⟩,hb.drew,Nat.le_refl _⟩,⟨cs6,k6,z6⟩,⟨cs7,k7,z7⟩⟩
 refine w2 ?_
 obtain⟨w0,hw0⟩:∃ w0,w0=w.drew:=⟨_,rfl⟩
 rw [<-hw0] at hg hbb
 obtain⟨HG0,HBB,HZ,HOK,HNE,HLO,HR⟩:=J7 hg hbb hz hok hne hlo hR
 clear h4 ho hz hok k6 k7 z6 z7 hne hlo hb hR hg hbb
 refine gg hfr fun t=>?_
 generalize w=w1 at hw0 ⊢
 have HW0:=J hw0
 clear hw0
 refine wp_region_all kr (fun i v W=>match i with|0=>v=.agg noMail|1=>v=.pointer (some ⟨b4,9,none⟩)|2=>v=epoch|3=>v=.pointer (some ⟨b4,10,none⟩)|4=>v=site|5=>v=.pointer (some ⟨b4,11,none⟩)|6=>v=.pointer (some ⟨b4,11,none⟩)|7=>v=aN|8=>v=.pointer (some ⟨b4,11,none⟩)|9=>v=.pointer (some ⟨b4,12,none⟩)|10=>v=aE|11=>v=.pointer (some ⟨b4,16,none⟩)|12=>v=.slice pA pn pc|13=>∃ A' c',v=.slice A' pn c'/\OpsIs W (From w0.heap.size) A' pn c' ops|14=>∃ A' c',v=.agg #[.int .i64 3,.int .i64 epoch,.int .i64 site,.int .i64 0,.int .i64 0,.int .i64 0,.int .i64 0,.int .i64 0,.int .i64 0,.string ⟨#[]⟩,.int .i64 0,.slice none 0 0,.int .i64 aN,.int .i64 aE,.slice A' pn c',.int .i64 0]/\OpsIs W (From w0.heap.size) A' pn c' ops|15=>Blk W b6 30 noMail|16=>∃ A' c',Blk W b7 47 #[.int .i64 3,.int .i64 epoch,.int .i64 site,.int .i64 0,.int .i64 0,.int .i64 0,.int .i64 0,.int .i64 0,.int .i64 0,.string ⟨#[]⟩,.int .i64 0,.slice none 0 0,.int .i64 aN,.int .i64 aE,.slice A' pn c',.int .i64 0]/\OpsIs W (From w0.heap.size) A' pn c' ops|17=>v=.int .i64 2|_=>True) (fun W=>(Blk W b4 30 (mailC kind term index prev commit good eA en ec data hA hn hc epoch site aN aE whN whE oA on oc pA pn pc)/\OpsIs W Sx pA pn pc ops/\Below B W0 W/\w0.heap.size<=W)/\(∃ cs,Blk W b6 30 cs/\cs.size=17)/\(∃ cs,Blk W b7 47 cs/\cs.size=16)) (fun W W'=>Kept (But b6 b7) W W'/\(Blk W b6 30 noMail->Blk W' b6 30 noMail)/\((∃ A' c',Blk W b7 47 #[.int .i64 3,.int .i64 epoch,.int .i64 site,.int .i64 0,.int .i64 0,.int .i64 0,.int .i64 0,.int .i64 0,.int .i64 0,.string ⟨#[]⟩,.int .i64 0,.slice none 0 0,.int .i64 aN,.int .i64 aE,.slice A' pn c',.int .i64 0]/\OpsIs W (From w0.heap.size) A' pn c' ops)->∃ A' c',Blk W' b7 47 #[.int .i64 3,.int .i64 epoch,.int .i64 site,.int .i64 0,.int .i64 0,.int .i64 0,.int .i64 0,.int .i64 0,.int .i64 0,.string ⟨#[]⟩,.int .i64 0,.slice none 0 0,.int .i64 aN,.int .i64 aE,.slice A' pn c',.int .i64 0]/\OpsIs W' (From w0.heap.size) A' pn c' ops)) kr ?hG ?hmono ?hstep ?hend
 case hG=>exact (show ∀ W,W=w0->(fun W=>(Blk W b4 30 (mailC kind term index prev commit good eA en ec data hA hn hc epoch site aN aE whN whE oA on oc pA pn pc)/\OpsIs W Sx pA pn pc ops/\Below B W0 W/\w0.heap.size<=W)/\(∃ cs,Blk W b6 30 cs/\cs.size=17)/\(∃ cs,Blk W b7 47 cs/\cs.size=16)) W from fun W h=>by rw [h];exact HG0.out) _ HW0.out.symm
 case hmono=>
  intro i v W W' hx hv
  match i with
  | 13=>
   exact Y26
  | 14=>
   exact Y26
  | 15=>
   exact hx.2.1 hv
  | 16=>
   exact hx.2.2 hv
  | 0|1|2|3|4|5|6|7|8|9|10|11|12|17=>exact hv
  | i+18=>exact hv
 case hstep=>
  intro i o F U W ho hGW hat hoff hp
  have hrefl:=fun W:World=>(⟨Kept.refl _ _,fun h=>h,fun h=>h⟩:Kept (But b6 b7) W W/\(Blk W b6 30 noMail->Blk W b6 30 noMail)/\((∃ A' c',Blk W b7 47 #[.int .i64 3,.int .i64 epoch,.int .i64 site,.int .i64 0,.int .i64 0,.int .i64 0,.int .i64 0,.int .i64 0,.int .i64 0,.string ⟨#[]⟩,.int .i64 0,.slice none 0 0,.int .i64 aN,.int .i64 aE,.slice A' pn c',.int .i64 0]/\OpsIs W (From w0.heap.size) A' pn c' ops)->∃ A' c',Blk W b7 47 #[.int .i64 3,.int .i64 epoch,.int .i64 site,.int .i64 0,.int .i64 0,.int .i64 0,.int .i64 0,.int .i64 0,.int .i64 0,.string ⟨#[]⟩,.int .i64 0,.slice none 0 0,.int .i64 aN,.int .i64 aE,.slice A' pn c',.int .i64 0]/\OpsIs W (From w0.heap.size) A' pn c' ops))
  have:=ot 4 b4
  have e6:=oo 6 b6
  have t6:=act_tmp e6
  have e7:=oo 7 b7
  have t7:=act_tmp e7
  obtain⟨qa,qb⟩:=J2 hat hp
  clear hat hoff hp
  match i with
   | 0|1|3|5|8|11|17=>cases ho;exact vna
   | 2=>cases ho;have:=tx 1 114;have d:=hGW.1.1.c1 9;exact vna
   | 4=>cases ho;have:=tx 3 116;have d:=hGW.1.1.c1 10;exact vna
   | 6=>cases ho;have:=tx 5 118;exact vna
   | 7=>cases ho;have:=tx 6 119;have d:=hGW.1.1.c1 11;exact vna
   | 9=>cases ho;have:=tx 8 121;exact vna
   | 10=>cases ho;have:=tx 9 122;have d:=hGW.1.1.c1 12;exact vna
   | 12=>cases ho;have:=tx 11 124;have d:=hGW.1.1.c1 16;exact vna
   | 13=>
    cases ho;refine on_ (wanted_none rfl) ?_;have:=tx 12 125
    refine wp_enter' 62 #[.slice pA pn pc] (by unfold execOp;go_simp) ?_
    refine (copiedL_any pA pn pc ops W hGW.1.2.1 HZ.out HOK.out).mono ?_
    exact Y36
   | 14=>
    cases ho;refine on_ (wanted_none rfl) ?_;have:=tx 2 115;have:=tx 4 117;have:=tx 7 120;have:=tx 10 123;have e126:=qa.out 13 126 kd rfl
    have v126:=qb.out ⟨13,.data⟩ (by simp) rfl
    obtain⟨A',c',hu,hi⟩:=v126;rw [hu] at e126;have t126:=act_tmp e126
    exact Y74
   | 15=>
    cases ho;refine on_ (wanted_none rfl) ?_;have:=tx 0 113;have e113:=ev qa qb 0 113;obtain⟨⟨g1,g2,g3,g4⟩,⟨cs,g5,g6⟩,⟨cs',g7,g8⟩⟩:=hGW;obtain⟨l,hl⟩:∃ l,l=noMail.toList:=⟨_,rfl⟩
    have hla:l.toArray=noMail:=by rw [hl]
    have hll:l.length=17:=by rw [hl];rfl
    have hn:=g5.setCells_ l (by rw [g6,hll])
    rw [hla] at hn;have hsv:=save_setCells W b6 0 l;have hsz:=size_setCells W b6 0 l
    have hkb:Kept (But b6 b7) W (W.setCells b6 0 l):=(Kept.refl _ _).cells _ _ (.inl fun h=>h.1 rfl) _
    have hg1:=hsv.blk g1 HNE.out.2.1;have hg2:OpsIs (W.setCells b6 0 l) Sx pA pn pc ops:=g2.kept ((Kept.refl _ _).cells _ _ (.inl HNE.out.2.2.2.1) _);have hg3:Below B W0 (W.setCells b6 0 l):=below_setCells HLO.out.1 g3 _ _;have hg7:=hsv.blk g7 (Ne.symm HNE.out.1)
    have hf2:(∃ A' c',Blk W b7 47 #[.int .i64 3,.int .i64 epoch,.int .i64 site,.int .i64 0,.int .i64 0,.int .i64 0,.int .i64 0,.int .i64 0,.int .i64 0,.string ⟨#[]⟩,.int .i64 0,.slice none 0 0,.int .i64 aN,.int .i64 aE,.slice A' pn c',.int .i64 0]/\OpsIs W (From w0.heap.size) A' pn c' ops)->∃ A' c',Blk (W.setCells b6 0 l) b7 47 #[.int .i64 3,.int .i64 epoch,.int .i64 site,.int .i64 0,.int .i64 0,.int .i64 0,.int .i64 0,.int .i64 0,.int .i64 0,.string ⟨#[]⟩,.int .i64 0,.slice none 0 0,.int .i64 aN,.int .i64 aE,.slice A' pn c',.int .i64 0]/\OpsIs (W.setCells b6 0 l) (From w0.heap.size) A' pn c' ops:=by
     exact Y93
    refine wp_store_mid 30 (.tmp 6) (.tmp 113) rfl b6 0 noMail e6 e113 (g5.there_ 0 _ (by rw [g6];exact Nat.le_refl _)) Try.sizeMail noMail_one ?_
    exact Y73
   | 16=>
    cases ho;refine on_ (wanted_none rfl) ?_;have e127:=qa.out 14 127 kd rfl
    have v127:=qb.out ⟨14,.data⟩ (by simp) rfl
    obtain⟨A',c',hu,hi⟩:=v127;rw [hu] at e127;obtain⟨⟨g1,g2,g3,g4⟩,⟨cs,g5,g6⟩,⟨cs',g7,g8⟩⟩:=hGW;obtain⟨l,hl⟩:∃ l,l=(#[.int .i64 3,.int .i64 epoch,.int .i64 site,.int .i64 0,.int .i64 0,.int .i64 0,.int .i64 0,.int .i64 0,.int .i64 0,.string ⟨#[]⟩,.int .i64 0,.slice none 0 0,.int .i64 aN,.int .i64 aE,.slice A' pn c',.int .i64 0]:Array Value).toList:=⟨_,rfl⟩
    have hla:l.toArray=#[.int .i64 3,.int .i64 epoch,.int .i64 site,.int .i64 0,.int .i64 0,.int .i64 0,.int .i64 0,.int .i64 0,.int .i64 0,.string ⟨#[]⟩,.int .i64 0,.slice none 0 0,.int .i64 aN,.int .i64 aE,.slice A' pn c',.int .i64 0]:=by rw [hl]
    have hll:l.length=16:=by rw [hl];rfl
    have hn:=g7.setCells_ l (by rw [g8,hll])
    rw [hla] at hn;have hsv:=save_setCells W b7 0 l;have hsz:=size_setCells W b7 0 l
    have hkb:Kept (But b6 b7) W (W.setCells b7 0 l):=(Kept.refl _ _).cells _ _ (.inl fun h=>h.2 rfl) _
    have hi':OpsIs (W.setCells b7 0 l) (From w0.heap.size) A' pn c' ops:=hi.kept ⟨hkb.1,fun b k1 k2=>hkb.2 b ⟨by have:w0.heap.size<=b:=k1;have:=HBB.out;omega,by have:w0.heap.size<=b:=k1;have:=HBB.out;omega⟩ k2⟩
    have hg1:=hsv.blk g1 HNE.out.2.2.1;have hg2:OpsIs (W.setCells b7 0 l) Sx pA pn pc ops:=g2.kept ((Kept.refl _ _).cells _ _ (.inl HNE.out.2.2.2.2) _);have hg3:Below B W0 (W.setCells b7 0 l):=below_setCells HLO.out.2 g3 _ _;have hg5:=hsv.blk g5 HNE.out.1
    have hg6:Blk W b6 30 noMail->Blk (W.setCells b7 0 l) b6 30 noMail:=fun h=>hsv.blk h HNE.out.1
    refine wp_store_mid 47 (.tmp 7) (.tmp 127) rfl b7 0 #[.int .i64 3,.int .i64 epoch,.int .i64 site,.int .i64 0,.int .i64 0,.int .i64 0,.int .i64 0,.int .i64 0,.int .i64 0,.string ⟨#[]⟩,.int .i64 0,.slice none 0 0,.int .i64 aN,.int .i64 aE,.slice A' pn c',.int .i64 0] e7 e127 (g7.there_ 0 _ (by rw [g8];exact Nat.le_refl _)) Try.sizeCmd propCells_one ?_
    exact Y31
   | i+18=>exact absurd ho (by simp)
 case hend=>
  intro U W hGW hV
  have hk6:Blk W b6 30 noMail:=hV 15 kd
  obtain⟨A',c',hk7,hi⟩:∃ A' c',Blk W b7 47 #[.int .i64 3,.int .i64 epoch,.int .i64 site,.int .i64 0,.int .i64 0,.int .i64 0,.int .i64 0,.int .i64 0,.int .i64 0,.string ⟨#[]⟩,.int .i64 0,.slice none 0 0,.int .i64 aN,.int .i64 aE,.slice A' pn c',.int .i64 0]/\OpsIs W (From w0.heap.size) A' pn c' ops:=hV 16 kd
  have h8:U 17=.int .i64 2:=hV 17 kd
  obtain⟨HK6,HK7,HI,HB⟩:=J4 hk6 hk7 hi hGW.1.2.2.1
  clear hV hGW hk6 hk7 hi
  refine wp_ret ?_
  refine bodyPost_ret (meet_results (b6:=b6) (b7:=b7) (by simp [putU,dstAt,Act.put]) (by simp [putU,dstAt,Act.put]) (by simp [putU,dstAt,Act.put];exact h8) HK6.out HK7.out) (by simp [putU,dstAt,Act.put]) ?_
  exact Y182
end
section
variable {cs:Array Value} {fence hE hS sE sN:Int} {holes:List Int} {os:List OpC} {m:MailC} {b11 b4 b5 b6 b7 b9 c ec en g hc hn jc jn n oc on pc pn:Nat} {S Sj Sm Sx:Nat->Prop} {A eA hA jA oA pA:O} {W:World}
section
variable {w:World}
theorem MailIs.any (h:MailIs w S cs m):MailIs w Any cs m:=h.mono fun _ _ _=>trivial
section
variable (R:Ending->World->Prop) {Q:Z} (hret:∀ a w,bodyPost prog meetF R .ret a w->Q .ret a w) (a:Act) (hfr:Fr 128 a [(4,b4),(5,b5),(6,b6),(7,b7),(11,b11)]) (h:Mt W w b4 b5 b6 b7 m (mailC m.kind m.term m.index m.prev m.commit m.good eA en ec m.data hA hn hc m.epoch m.site m.atN m.atE m.whN m.whE oA on oc pA pn pc) sN sE jA jn jc holes (mailC 10 0 0 0 0 false none 0 0 ⟨#[]⟩ none 0 0 m.epoch 0 0 0 0 0 none 0 0 none 0 0)) (h11:Blk w b11 28 #[.slice A n c]) (ho:OpsIs w Sx A n c os) (hz:n<=4294967296) (hmz:m.ops.length<=4294967296) (hok:m.Ok) (hsN:I64 sN) (hsE:I64 sE) (hjz:holes.length*8<=140737488351232) (hj:∀ z∈holes,I64 z) (h11n:b11≠b6) (hSx:∀ b,Sx b->b≠b6)
include R hret a hfr h h11 ho hz hmz hok hsN hsE hjz hj h11n hSx
theorem mgood (hR:∀ mc' w',MailIs w' (From W.heap.size) mc' (if (hasB os sN sE&&(ansM m.epoch true (endC m.atN m.atE m.ops).1 (endC m.atN m.atE m.ops).2 sN sE holes).right10)=true then ansM m.epoch true (endC m.atN m.atE m.ops).1 (endC m.atN m.atE m.ops).2 sN sE holes else ansM m.epoch true (endC m.atN m.atE m.ops).1 (endC m.atN m.atE m.ops).2 0 0 [])->Below W W w'->R (.returned (.tuple #[.agg mc',.agg noCmd,.int .i64 1])) w') :
 (part [1,1,1,1,1,1,0,1,0,1,1,0] (codeOf meetF)).wp prog Q a w:=by
 have hlo:=h.lo
 have hjl:=h.ints.len
 have h11lt:=h11.lt
 refine Ytaipgdhdfpemcaa.w2 ?_
 refine mt13 hmz _ a hfr h fun a1 w1 hf1 h1 hk1=>?_
 show (part [1,1,1,1,1,1,0,1,0,1,1,0,1] (codeOf meetF)).wp prog Q a1 w1
 have h11a:b11≠b6:=h11n
 have k11:=h11.kept_ hk1 h11a
 have ho1:=ho.kept (hk1.mono fun b hb hs=>hSx b hs)
 refine Ytaipgdhdfpemcaa.w2 ?_
 refine mt14 _ a1 hf1 h1 fun a2 w2 hf2 h12 hb2=>?_
 show (part [1,1,1,1,1,1,0,1,0,1,1,0,1,1] (codeOf meetF)).wp prog Q a2 w2
 have h2:=h1.below hb2
 have hs7:=h1.k7.lt
 have k11:=k11.below hb2 k11.lt
 have ho2:=ho1.below hb2
 refine Ytaipgdhdfpemcaa.w2 ?_
 refine mreach _ a2 hf2 h2.k5 h12 h2.ints (by omega) (by omega) fun a3 w3 hf3 ⟨⟨A3,c3,h12',hi3⟩,hb3,hk3⟩=>?_
 show (part [1,1,1,1,1,1,0,1,0,1,1,0,1,1,1] (codeOf meetF)).wp prog Q a3 w3
 have hb3':Below w1 w1 w3:=hb2.trans hb3
 have h3:=h1.below hb3'
 have hx:b11<w1:=by have:=h11.kept_ hk1 h11a;exact this.lt
 have k11':Blk w3 b11 28 #[.slice A n c]:=(h11.kept_ hk1 h11a).below hb3' hx
 have ho3:=ho1.below hb3'
 have hen:=endC_ok hok.atN hok.atE hok.op
 have hy:=ansM_ok (good:=true) hok.epoch hen.1 hen.2 hsN hsE hjz hj
 refine Ytaipgdhdfpemcaa.w2 ?_
 refine Ytaipgdhdfpemcaa.w2 ?_
 refine mt16 (y:=ansM m.epoch true (endC m.atN m.atE m.ops).1 (endC m.atN m.atE m.ops).2 sN sE holes) _ a3 hf3 h3 k11' ho3 hz h12' (ansM_is m.epoch true (endC m.atN m.atE m.ops).1 (endC m.atN m.atE m.ops).2 sN sE hi3) rfl hy fun a4 w4 hf4 hb4=>?_
 show (part [1,1,1,1,1,1,0,1,0,1,1,0,1,1,1,0,1] (codeOf meetF)).wp prog _ a4 w4
 have h4:=h3.below hb4
 have h12'':=h12'.below hb4 h12'.lt
 have hi4:=hi3.below hb4
 obtain⟨hd4,hs4,f4,f5,f6,f7,f11,f12,f109,-⟩:=hf4
 refine wp_if (o:=.tmp 109) (x:=part [1,1,1,1,1,1,0,1,0,1,1,0,1,1,1,0,1,0] (codeOf meetF)) (y:=part [1,1,1,1,1,1,0,1,0,1,1,0,1,1,1,0,1,1] (codeOf meetF)) (t:=hasB os sN sE&&(ansM m.epoch true (endC m.atN m.atE m.ops).1 (endC m.atN m.atE m.ops).2 sN sE holes).right10) kr (eval_at f109 rfl) ?_ ?_
 ·intro ht
  rw [if_pos ht] at hR
  refine mt17 _ a4 ⟨hd4,hs4,f4,f5,f6,f7,f11,f12,trivial⟩ h4 h12'' fun a5 w5 hf5 h5 hk5=>?_
  show (part [1,1,1,1,1,1,0,1,0,1,1,0,1,1,1,1] (codeOf meetF)).wp prog Q a5 w5
  obtain⟨hd5,hs5,g4,g5,g6,g7,g11,-⟩:=hf5
  refine mret18 R hret W.heap.size W a5 w5 b6 b7 ⟨hd5,hs5,g6,g7,trivial⟩ h5.k6 h5.k7 (by omega) (by omega) (by omega) h5.bel fun w6 hb6 hk6=>?_
  refine hR _ _ (ansM_is _ _ _ _ _ _ (((hi4.kept (hk5.mono fun b hb hs=>?_)).kept (hk6.mono fun b hb hs=>?_)).mono fun q _ hq=>(show W.heap.size<=q from by have:w2.heap.size<=q:=hq;have:=h2.bel.size;omega))) hb6
  ·have:w2.heap.size<=b:=hs
   have:=h2.k6.lt
   show b≠b6
   omega
  ·have:w2.heap.size<=b:=hs
   have:=h2.k6.lt
   have:=h2.k7.lt
   show b≠b6/\b≠b7
   omega
 ·intro ht
  rw [if_neg (by rw [ht];decide)] at hR
  refine wp_nop kr ?_
  show (part [1,1,1,1,1,1,0,1,0,1,1,0,1,1,1,1] (codeOf meetF)).wp prog Q a4 w4
  refine mret18 R hret W.heap.size W a4 w4 b6 b7 ⟨hd4,hs4,f6,f7,trivial⟩ h4.k6 h4.k7 (by omega) (by omega) (by omega) h4.bel fun w6 hb6 hk6=>?_
  exact hR _ _ (ansM_is _ _ _ _ _ _ (ints_nil _ _)) hb6
theorem mequal (hno:hasB os m.atN m.atE=false->∀ mc' w',MailIs w' (From W.heap.size) mc' (ansM m.epoch false (Seam.hintN (os.map (·.epoch)) m.atN m.atE) (Seam.ep (os.map (·.epoch)) (Seam.hintN (os.map (·.epoch)) m.atN m.atE)) 0 0 [])->Below W W w'->R (.returned (.tuple #[.agg mc',.agg noCmd,.int .i64 1])) w') (hall:hasB os m.atN m.atE=true->(m.ops.all fun o=>hasB os o.n o.epoch)=true->∀ mc' w',MailIs w' (From W.heap.size) mc' (if (hasB os sN sE&&(ansM m.epoch true (endC m.atN m.atE m.ops).1 (endC m.atN m.atE m.ops).2 sN sE holes).right10)=true then ansM m.epoch true (endC m.atN m.atE m.ops).1 (endC m.atN m.atE m.ops).2 sN sE holes else ansM m.epoch true (endC m.atN m.atE m.ops).1 (endC m.atN m.atE m.ops).2 0 0 [])->Below W W w'->R (.returned (.tuple #[.agg mc',.agg noCmd,.int .i64 1])) w') (hgo:hasB os m.atN m.atE=true->(m.ops.all fun o=>hasB os o.n o.epoch)=false->∀ a' w',Fr 128 a' [(4,b4),(5,b5),(6,b6),(7,b7),(11,b11)]->Mt W w' b4 b5 b6 b7 m (mailC m.kind m.term m.index m.prev m.commit m.good eA en ec m.data hA hn hc m.epoch m.site m.atN m.atE m.whN m.whE oA on oc pA pn pc) sN sE jA jn jc holes (mailC 10 0 0 0 0 false none 0 0 ⟨#[]⟩ none 0 0 m.epoch 0 0 0 0 0 none 0 0 none 0 0)->Q .normal a' w') :
 (part [1,1,1,1,1,1,0,1,0] (codeOf meetF)).wp prog Q a w:=by
 have hlo:=h.lo
 refine Ytaipgdhdfpemcaa.w2 ?_
 refine Ytaipgdhdfpemcaa.w2 ?_
 refine mt9 _ a hfr h h11 ho hz fun a1 w1 hf1 hb1=>?_
 show (part [1,1,1,1,1,1,0,1,0,0,1] (codeOf meetF)).wp prog _ a1 w1
 have h1:=h.below hb1
 have k11:=h11.below hb1 h11.lt
 have ho1:=ho.below hb1
 obtain⟨hd1,hs1,f4,f5,f6,f7,f11,f67,-⟩:=hf1
 refine wp_if (o:=.tmp 67) (x:=part [1,1,1,1,1,1,0,1,0,0,1,0] (codeOf meetF)) (y:=part [1,1,1,1,1,1,0,1,0,0,1,1] (codeOf meetF)) (t:=!(hasB os m.atN m.atE)) kr (eval_at f67 rfl) ?_ ?_
 ·intro ht
  have ht':hasB os m.atN m.atE=false:=by rw [Bool.not_eq_true'] at ht;exact ht
  refine Ytaipgdhdfpemcaa.w2 ?_
  refine mhint _ a1 ⟨hd1,hs1,f4,f5,f6,f7,f11,trivial⟩ h1.k4 h1.k6 k11 ho1 hz hok.atN (by omega) h11n fun a2 w2 hf2 ⟨h2,hb2,hk2⟩=>?_
  show (part [1,1,1,1,1,1,0,1,0,0,1,0,1] (codeOf meetF)).wp prog _ a2 w2
  obtain⟨hd2,hs2,g4,g5,g6,g7,g11,-⟩:=hf2
  have h7:=h1.k7.kept_ hk2 (by show b7≠b6;omega)
  refine mret11 R (by exact fun a w h=>hret a w h) W.heap.size W a2 w2 b6 b7 ⟨hd2,hs2,g6,g7,trivial⟩ h2 h7 (by omega) (by omega) (by omega) (h1.bel.trans (hb2.mono (by omega))) fun w3 hb3 hk3=>?_
  exact hno ht' _ _ (ansM_is _ _ _ _ _ _ (ints_nil _ _)) hb3
 ·intro ht
  have ht':hasB os m.atN m.atE=true:=by simpa using ht
  refine wp_nop kr ?_
  show (part [1,1,1,1,1,1,0,1,0,1] (codeOf meetF)).wp prog _ a1 w1
  refine Ytaipgdhdfpemcaa.w2 ?_
  refine mt12 hmz _ a1 ⟨hd1,hs1,f4,f5,f6,f7,f11,trivial⟩ h1 k11 ho1 hz fun a2 w2 hf2 hb2=>?_
  show (part [1,1,1,1,1,1,0,1,0,1,1] (codeOf meetF)).wp prog _ a2 w2
  have h2:=h1.below hb2
  have k11:=k11.below hb2 k11.lt
  have ho2:=ho1.below hb2
  obtain⟨hd2,hs2,g4,g5,g6,g7,g11,g84,-⟩:=hf2
  refine wp_if (o:=.tmp 84) (x:=part [1,1,1,1,1,1,0,1,0,1,1,0] (codeOf meetF)) (y:=part [1,1,1,1,1,1,0,1,0,1,1,1] (codeOf meetF)) (t:=m.ops.all fun o=>hasB os o.n o.epoch) kr (eval_at g84 rfl) ?_ ?_
  ·intro hx
   exact mgood R hret a2 ⟨hd2,hs2,g4,g5,g6,g7,g11,trivial⟩ h2 k11 ho2 hz hmz hok hsN hsE hjz hj h11n hSx (hall ht' hx)
  ·intro hx
   refine wp_nop kr ?_
   exact hgo ht' hx a2 w2 ⟨hd2,hs2,g4,g5,g6,g7,g11,trivial⟩ h2
end
theorem mt2 (hmz:m.ops.length<=4294967296) (hok:m.Ok) (Q:Z) (a:Act) (hfr:Fr 128 a [(0,g),(4,b4),(5,b5),(6,b6),(7,b7),(9,b9)]) (h:Mt W w b4 b5 b6 b7 m (mailC m.kind m.term m.index m.prev m.commit m.good eA en ec m.data hA hn hc m.epoch m.site m.atN m.atE m.whN m.whE oA on oc pA pn pc) sN sE jA jn jc holes noMail) (h9:Blk w b9 93 #[hE,hS]) (hQ:∀ a' w',Fr 128 a' [(0,g),(4,b4),(5,b5),(6,b6),(7,b7),(9,b9),(40,(!(decide ((m.kind=9/\m.right9=true)/\¬ (m.epoch=hE/\m.site≠hS)))))]->Below w w w'->Q .normal a' w') :
 (part [1,1,0,0] (codeOf meetF)).wp prog Q a w:=by
 obtain⟨t,ht⟩:∃ t,t = !(decide ((m.kind=9/\m.right9=true)/\¬ (m.epoch=hE/\m.site≠hS))):=⟨_,rfl⟩
 rw [<-ht] at hQ
 have c0:=h.k4.c1 0
 obtain⟨HT,HQ,HM,HK9,HZ,HOK⟩:=J6 ht hQ h h9 hmz hok
 clear hQ h h9 ht hmz hok
 refine gg hfr fun t=>?_
 by_cases hk:m.kind=9
 ·have d0:(m.kind != 9)=false:=by simp [hk]
  obtain⟨c1,c2,c3,c4,c5,c6,c7,c8,c9,c10,c11,c12,c13,c14,c15,c16⟩:=HM.out.k4.cs 1 16
  have HK:=J hk
  clear hk
  go_wp2_with fail
  refine (check9_any _ m w HK.out HM.out.mail HOK.out HZ.out).mono ?_
  rintro e w2 ⟨rfl,hb⟩
  clear c0 c1 c2 c3 c4 c5 c6 c7 c8 c9 c10 c11 c12 c13 c14 c15 c16
  have h2:=HM.out.below hb
  have h92:=HK9.out.below hb HK9.out.lt
  obtain⟨c9,c10⟩:=h2.k4.cs 9 2
  obtain⟨e0,e1⟩:=h92.cs 0 2
  have HB:=J hb
  clear hb h2 h92
  obtain⟨r,hr⟩:∃ r,r=m.right9:=⟨_,rfl⟩
  rw [<-hr]
  have HR9:=J hr
  clear hr
  cases r with
  | false=>
   go_wp2_with fail
   refine HQ.out _ _ ⟨rfl,rfl,rfl,rfl,rfl,rfl,rfl,rfl,?_,trivial⟩ HB.out
   rw [HT.out,<-HR9.out];simp;rfl
  | true=>
   by_cases hE1:m.epoch=hE
   ·have d1:(m.epoch==hE)=true:=by simp [hE1]
    have HE1:=J hE1
    clear hE1
    by_cases hS1:m.site=hS
    ·have d2:(m.site != hS)=false:=by simp [hS1]
     exact Y101
    ·have d2:(m.site != hS)=true:=by simp [hS1]
     exact Y101
   ·have d1:(m.epoch==hE)=false:=by simp [hE1]
    have HE1:=J hE1
    clear hE1
    go_wp2_with fail
    refine HQ.out _ _ ⟨rfl,rfl,rfl,rfl,rfl,rfl,rfl,rfl,?_,trivial⟩ HB.out
    rw [HT.out,<-HR9.out];simp [HK.out,HE1.out];rfl
 ·have d0:(m.kind != 9)=true:=by simp [hk]
  have HK:=J hk
  clear hk
  go_wp2_with fail
  refine HQ.out _ _ ⟨rfl,rfl,rfl,rfl,rfl,rfl,rfl,rfl,?_,trivial⟩ (Below.refl _ _)
  rw [HT.out];simp [HK.out];rfl
end
theorem meet_boxes (w:World) (mc rc:Array Value):∃ w4,w4=(((w.alloc (.cells mc 30)).alloc (.cells rc 32)).alloc (.cells noMail 30)).alloc (.cells noCmd 47)/\w4.heap.size=w.heap.size+4/\Below w w w4/\Blk w4 w 30 mc/\Blk w4 (w.heap.size+1) 32 rc/\Blk w4 (w.heap.size+2) 30 noMail/\Blk w4 (w.heap.size+3) 47 noCmd:=by
 have k4:=(((Blk.new w 30 mc).alloc (.cells rc 32)).alloc (.cells noMail 30)).alloc (.cells noCmd 47)
 have k5:=((Blk.new (w.alloc (.cells mc 30)) 32 rc).alloc (.cells noMail 30)).alloc (.cells noCmd 47)
 have k6:=(Blk.new ((w.alloc (.cells mc 30)).alloc (.cells rc 32)) 30 noMail).alloc (.cells noCmd 47)
 have k7:=Blk.new (((w.alloc (.cells mc 30)).alloc (.cells rc 32)).alloc (.cells noMail 30)) 47 noCmd
 have s1:(w.alloc (.cells mc 30)).heap.size=w.heap.size+1:=by simp
 have s2:((w.alloc (.cells mc 30)).alloc (.cells rc 32)).heap.size=w.heap.size+2:=by simp
 have s3:(((w.alloc (.cells mc 30)).alloc (.cells rc 32)).alloc (.cells noMail 30)).heap.size=w.heap.size+3:=by simp
 rw [s1] at k5
 rw [s2] at k6
 rw [s3] at k7
 exact⟨_,rfl,by simp,((((Below.refl _ _).alloc (Nat.le_refl _) _).alloc (by simp) _).alloc (by simp;omega) _).alloc (by simp;omega) _,k4,k5,k6,k7⟩
section
variable {w:World} (Q:Z) (a:Act) (hfr:Fr 128 a [(4,b4),(5,b5),(6,b6),(7,b7),(10,fence),(11,b11)]) (c9:w.cell? ⟨b4,9,none⟩=some (.int .i64 m.epoch))
include Q a hfr c9
theorem mt6 (hQ:∀ a',Fr 128 a' [(4,b4),(5,b5),(6,b6),(7,b7),(10,fence),(11,b11),(55,(decide (m.epoch<fence)))]->Q .normal a' w):(part [1,1,1,1,1,0,0] (codeOf meetF)).wp prog Q a w:=by
 exact Y218
theorem mt8 (hQ:∀ a',Fr 128 a' [(4,b4),(5,b5),(6,b6),(7,b7),(10,fence),(11,b11),(61,.bool (m.epoch==fence))]->Q .normal a' w):(part [1,1,1,1,1,1,0,0] (codeOf meetF)).wp prog Q a w:=by
 exact Y218
end
theorem mbody {w:World} (R:Ending->World->Prop) (a:Act) (hfr:Fr 128 a [(0,g),(4,b4),(5,b5),(6,b6),(7,b7),(9,b9)]) (h:Mt W w b4 b5 b6 b7 m (mailC m.kind m.term m.index m.prev m.commit m.good eA en ec m.data hA hn hc m.epoch m.site m.atN m.atE m.whN m.whE oA on oc pA pn pc) sN sE jA jn jc holes noMail) (h9:Blk w b9 93 #[hE,hS]) (hg:Blk w g 98 cs) (h3:cs[3]? = some (.int .i64 hE)) (h4:cs[4]? = some (.int .i64 hS)) (h5:cs[5]? = some (.slice A n c)) (h7:cs[7]? = some (.int .i64 fence)) (ho:OpsIs w Sx A n c os) (hz:n<=4294967296) (hoo:∀ o∈os,o.Ok) (hmz:m.ops.length<=4294967296) (hok:m.Ok) (hsN:I64 sN) (hsE:I64 sE) (hjz:holes.length*8<=140737488351232) (hj:∀ z∈holes,I64 z) (hE_:hE=(holderC os).1) (hS_:hS=(holderC os).2) (hR:∀ x w',MeetR W (meetP os fence m sN sE holes) x w'->R x w') :
 (part [1,1] (codeOf meetF)).wp prog (bodyPost prog meetF R) a w:=by
 have hlo:=h.lo
 have hRR:=hR
 refine Ytaipgdhdfpemcaa.w2 ?_
 refine Ytaipgdhdfpemcaa.w2 ?_
 refine mt2 hmz hok _ a hfr h h9 fun a1 w1 hf1 hb1=>?_
 show (part [1,1,0,1] (codeOf meetF)).wp prog _ a1 w1
 have h1:=h.below hb1
 have hg1:=hg.below hb1 hg.lt
 have ho1:=ho.below hb1
 obtain⟨hd1,hs1,f0,f4,f5,f6,f7,f9,f40,-⟩:=hf1
 subst hE_ hS_
 refine wp_if (o:=.tmp 40) (x:=part [1,1,0,1,0] (codeOf meetF)) (y:=part [1,1,0,1,1] (codeOf meetF)) (t:=!(decide ((m.kind=9/\m.right9=true)/\¬ (m.epoch=(holderC os).1/\m.site≠(holderC os).2)))) kr (eval_at f40 rfl) ?_ ?_
 ·intro ht
  have ht':¬ ((m.kind=9/\m.right9=true)/\¬ (m.epoch=(holderC os).1/\m.site≠(holderC os).2)):=of_decide_eq_false (by rw [Bool.not_eq_true'] at ht;exact ht)
  refine mret3 R (by exact fun a w h=>h) W.heap.size W a1 w1 b6 b7 ⟨hd1,hs1,f6,f7,trivial⟩ h1.k6 h1.k7 (by omega) (by omega) (by omega) h1.bel fun w3 hb3 hk3=>?_
  exact Y191
 ·intro ht
  have ht':(m.kind=9/\m.right9=true)/\¬ (m.epoch=(holderC os).1/\m.site≠(holderC os).2):=Decidable.of_not_not fun hn=>by rw [decide_eq_false hn] at ht;exact absurd ht (by decide)
  unfold meetP at hR
  rw [if_pos ht'] at hR
  refine wp_nop kr ?_
  show (part [1,1,1] (codeOf meetF)).wp prog _ a1 w1
  refine Ytaipgdhdfpemcaa.w2 ?_
  refine mt4 _ a1 ⟨hd1,hs1,f0,f4,f5,f6,f7,trivial⟩ hg1 h5 h7 ho1 hz hoo fun a2 w2 b11 A2 c2 hf2 h11 ho2 hb11 hb2=>?_
  show (part [1,1,1,1] (codeOf meetF)).wp prog _ a2 w2
  have h2:=h1.below hb2
  refine Ytaipgdhdfpemcaa.w2 ?_
  refine mt5 rfl _ a2 hf2 h2 fun a3 w3 hf3 h3 hk3=>?_
  show (part [1,1,1,1,1] (codeOf meetF)).wp prog _ a3 w3
  have hl6:=h1.k6.lt
  have n11:b11≠b6:=by omega
  have h11':=h11.kept_ hk3 n11
  have ho3:=ho2.kept (hk3.mono fun b _ hb=>by have:w1.heap.size<=b:=hb;show b≠b6;omega)
  obtain⟨hd3,hs3,g4,g5,g6,g7,g10,g11,-⟩:=hf3
  have c9:=h3.k4.c1 9
  refine Ytaipgdhdfpemcaa.w2 ?_
  refine Ytaipgdhdfpemcaa.w2 ?_
  refine mt6 _ a3 ⟨hd3,hs3,g4,g5,g6,g7,g10,g11,trivial⟩ c9 fun a4 hf4=>?_
  show (part [1,1,1,1,1,0,1] (codeOf meetF)).wp prog _ a4 w3
  obtain⟨hd4,hs4,k4,k5,k6,k7,k10,k11,k55,-⟩:=hf4
  refine wp_if (o:=.tmp 55) (x:=part [1,1,1,1,1,0,1,0] (codeOf meetF)) (y:=part [1,1,1,1,1,0,1,1] (codeOf meetF)) (t:=decide (m.epoch<fence)) kr (eval_at k55 rfl) ?_ ?_
  ·intro hlt
   have hlt':=of_decide_eq_true hlt
   rw [if_pos hlt'] at hR
   rw [if_pos hlt'] at h3
   refine mret7 R (by exact fun a w h=>h) W.heap.size W a4 w3 b6 b7 ⟨hd4,hs4,k6,k7,trivial⟩ h3.k6 h3.k7 (by omega) (by omega) (by omega) h3.bel fun w5 hb5 hk5=>?_
   exact hR _ _ ⟨_,_,rfl,ansM_is _ _ _ _ _ _ (ints_nil _ _),cmdZ_is _ _,hb5⟩
  ·intro hlt
   have hlt':=of_decide_eq_false hlt
   rw [if_neg hlt'] at hR
   rw [if_neg hlt'] at h3
   refine wp_nop kr ?_
   show (part [1,1,1,1,1,1] (codeOf meetF)).wp prog _ a4 w3
   have hprop:∀ a w',Fr 128 a [(4,b4),(5,b5),(6,b6),(7,b7),(11,b11)]->(∃ A,Mt W w' b4 b5 b6 b7 m (mailC m.kind m.term m.index m.prev m.commit m.good eA en ec m.data hA hn hc m.epoch m.site m.atN m.atE m.whN m.whE oA on oc pA pn pc) sN sE jA jn jc holes A/\A.size=17)->meetP os fence m sN sE holes=(mailZ,propC m,2)->(part [1,1,1,1,1,1,1] (codeOf meetF)).wp prog (bodyPost prog meetF R) a w':=by
    intro a' w' hf' ⟨ans,hm',hsz⟩ he
    obtain⟨hd',hs',q4,q5,q6,q7,q11,-⟩:=hf'
    obtain⟨_,_,_,_,_,_,_,_,_,xA,xn,xc,hec,_,_,_,hops⟩:=hm'.mail
    have he2:=congrArg (fun c=>c[16]?) hec
    simp at he2
    obtain⟨rfl,rfl,rfl⟩:=he2
    have hpl:=hops.len
    refine mprop R W.heap.size W a' w' b4 b6 b7 ⟨hd',hs',q4,q6,q7,trivial⟩ hm'.k4 hops (by omega) hok.op ⟨_,hm'.k6,hsz⟩ ⟨_,hm'.k7,rfl⟩ ⟨by omega,by omega,by omega,by omega,by omega⟩ ⟨by omega,by omega⟩ hm'.bel fun A' c' w5 hb5 hi5=>?_
    refine hRR _ _ ?_
    rw [he]
    exact⟨_,_,rfl,mailZ_is _ _,propC_is m hi5,hb5⟩
   refine Ytaipgdhdfpemcaa.w2 ?_
   have c9':=h3.k4.cell 9
   simp at c9'
   refine Ytaipgdhdfpemcaa.w2 ?_
   refine mt8 _ a4 ⟨hd4,hs4,k4,k5,k6,k7,k10,k11,trivial⟩ c9' fun a5 hf5=>?_
   show (part [1,1,1,1,1,1,0,1] (codeOf meetF)).wp prog _ a5 w3
   obtain⟨hd5,hs5,l4,l5,l6,l7,l10,l11,l61,-⟩:=hf5
   refine wp_if (o:=.tmp 61) (x:=part [1,1,1,1,1,1,0,1,0] (codeOf meetF)) (y:=part [1,1,1,1,1,1,0,1,1] (codeOf meetF)) (t:=m.epoch==fence) kr (eval_at l61 rfl) ?_ ?_
   ·intro heq
    have heq':m.epoch=fence:=by simpa using heq
    refine mequal R (by exact fun a w h=>h) a5 ⟨hd5,hs5,l4,l5,l6,l7,l11,trivial⟩ h3 h11' ho3 hz hmz hok hsN hsE hjz hj n11 (fun b hb=>by have:w1.heap.size<=b:=hb;omega) ?_ ?_ ?_
    ·intro hno mc' w5 hm5 hb5
     refine hR _ _ ?_
     rw [if_pos ⟨heq',hno⟩]
     exact⟨_,_,rfl,hm5,cmdZ_is _ _,hb5⟩
    ·intro hyes hall mc' w5 hm5 hb5
     refine hR _ _ ?_
     rw [if_neg (by rw [hyes];simp),if_pos ⟨heq',hall⟩]
     exact⟨_,_,rfl,hm5,cmdZ_is _ _,hb5⟩
    ·intro hyes hnall a6 w6 hf6 hm6
     refine hprop a6 w6 hf6 ⟨_,hm6,rfl⟩ ?_
     unfold meetP
     rw [if_pos ht',if_neg hlt',if_neg (by rw [hyes];simp),if_neg (by rw [hnall];simp)]
   ·intro hne
    have hne':¬ m.epoch=fence:=by simpa using hne
    refine wp_nop kr ?_
    refine hprop a5 w3 ⟨hd5,hs5,l4,l5,l6,l7,l11,trivial⟩ ⟨_,h3,rfl⟩ ?_
    unfold meetP
    rw [if_pos ht',if_neg hlt',if_neg (fun h=>hne' h.1),if_neg (fun h=>hne' h.1)]
theorem meet_any (w:World) {mc:Array Value} (hg:Blk w g 98 cs) (h3:cs[3]? = some (.int .i64 hE)) (h4:cs[4]? = some (.int .i64 hS)) (h5:cs[5]? = some (.slice A n c)) (h7:cs[7]? = some (.int .i64 fence)) (ho:OpsIs w Sx A n c os) (hz:n<=4294967296) (hoo:∀ o∈os,o.Ok) (hm:MailIs w Sm mc m) (hj_:IntIs w Sj jA jn jc holes) (hmz:m.ops.length<=4294967296) (hok:m.Ok) (hsN:I64 sN) (hsE:I64 sE) (hjz:holes.length*8<=140737488351232) (hj:∀ z∈holes,I64 z) (hE_:hE=(holderC os).1) (hS_:hS=(holderC os).2) :
 Calls prog 16 #[.pointer (some ⟨g,0,none⟩),.agg mc,.agg #[sN,sE,.slice jA jn jc]] w (MeetR w (meetP os fence m sN sE holes)):=by
 have hm_:=hm
 obtain⟨eA,en,ec,hA,hn,hc,oA,on,oc,pA,pn,pc,rfl,_⟩:=hm
 have hm:MailIs w (fun b=>b<w) (mailC m.kind m.term m.index m.prev m.commit m.good eA en ec m.data hA hn hc m.epoch m.site m.atN m.atE m.whN m.whE oA on oc pA pn pc) m:=hm_.mono fun b hb _=>hb
 have hj1:IntIs w (fun b=>b<w) jA jn jc holes:=hj_.mono fun b hb _=>hb
 obtain⟨w4,hw4,hs4,hb4,k4,k5,k6,k7⟩:=meet_boxes w (mailC m.kind m.term m.index m.prev m.commit m.good eA en ec m.data hA hn hc m.epoch m.site m.atN m.atE m.whN m.whE oA on oc pA pn pc) #[sN,sE,.slice jA jn jc]
 have hg4:=hg.below hb4 hg.lt
 have ho4:=ho.below hb4
 have hmt:Mt w w4 w.heap.size (w.heap.size+1) (w.heap.size+2) (w.heap.size+3) m (mailC m.kind m.term m.index m.prev m.commit m.good eA en ec m.data hA hn hc m.epoch m.site m.atN m.atE m.whN m.whE oA on oc pA pn pc) sN sE jA jn jc holes noMail:=⟨k4,hm.below hb4,k5,hj1.below hb4,k6,k7,hb4,Nat.le_refl _,by omega,by omega,by omega⟩
 have hld:=holder_any w4 hg4 h3 h4
 obtain⟨HW4,HMT,HLD,HG,HO,HZ,H3,H4,H5⟩:=J9 hw4 hmt hld hg4 ho4 hz h3 h4 h5
 obtain⟨H7,HOO,HMZ,HOK,HN,HE,HJZ,HJ,HE_⟩:=J9 h7 hoo hmz hok hsN hsE hjz hj hE_
 have HS_:=J hS_
 clear hw4 hs4 hb4 k4 k5 k6 k7 hg4 ho4 hmt hld hm hj1 hm_ hj_ hg h3 h4 h5 h7 ho hz hoo hmz hok hsN hsE hjz hj hE_ hS_
 go_enter func16,ntmps16
 conv=>arg 2;arg 2;arg 2;change part [1,1] (codeOf meetF)
 go_wp2_with fail
 rw [<-HW4.out]
 refine HLD.out.mono ?_
 rintro e w5 ⟨rfl,hb5⟩
 have hb6:=hb5.alloc hb5.size (.cells #[hE,hS] 93)
 have HB6:=J hb6
 have HK9:=J (Blk.new w5 93 #[hE,hS])
 clear hb5 hb6
 go_wp2_with fail
 exact mbody (W:=w) _ _ ff (HMT.out.below HB6.out) HK9.out (HG.out.below HB6.out HG.out.lt) H3.out H4.out H5.out H7.out (HO.out.below HB6.out) HZ.out HOO.out HMZ.out HOK.out HN.out HE.out HJZ.out HJ.out HE_.out HS_.out fun x w' h=>h
end
end Go.Proofs.Ytaipgdhdfpemcaa
