/- THE WALKS OF THE LANE, part 40. -/
import Derived.Test.YtaipgdhdfpemcaaG39
namespace Go.Proofs.Ytaipgdhdfpemcaa
set_option linter.all false
open Go.RowKit Go.Proofs.Try
set_option maxRecDepth 100000
set_option maxHeartbeats 4000000
section
variable {good:Bool} {data:ByteArray} {aE aN commit epoch index kind prev site term whE whN:Int} {ops:List OpC} {c ec en hc hn n oc on pc pn:Nat} {Sx:Nat->Prop} {A eA hA oA pA:O}
theorem propCells_one:(#[.int .i64 3,.int .i64 epoch,.int .i64 site,.int .i64 0,.int .i64 0,.int .i64 0,.int .i64 0,.int .i64 0,.int .i64 0,.string ⟨#[]⟩,.int .i64 0,.slice none 0 0,.int .i64 aN,.int .i64 aE,.slice A n c,.int .i64 0]:Array Value).all (·.oneCell')=true:=all_oneCell_toArray (by
 intro v hv
 simp only [List.mem_cons,List.not_mem_nil,or_false] at hv
 rcases hv with rfl|rfl|rfl|rfl|rfl|rfl|rfl|rfl|rfl|rfl|rfl|rfl|rfl|rfl|rfl|rfl<;>rfl)
theorem mprop (R:Ending->World->Prop) (B:Nat) (W0:World) (a:Act) (w:World) (b4 b6 b7:Nat) (hfr:Fr 128 a [(4,b4),(6,b6),(7,b7)]) (h4:Blk w b4 30 (mailC kind term index prev commit good eA en ec data hA hn hc epoch site aN aE whN whE oA on oc pA pn pc)) (ho:OpsIs w Sx pA pn pc ops) (hz:pn<=4294967296) (hok:∀ o∈ops,o.Ok) (h6:∃ cs,Blk w b6 30 cs/\cs.size=17) (h7:∃ cs,Blk w b7 47 cs/\cs.size=16) (hne:b6≠b7/\b4≠b6/\b4≠b7/\¬ Sx b6/\¬ Sx b7) (hlo:B<=b6/\B<=b7) (hb:Below B W0 w) (hR:∀ A' c' w',Below B W0 w'->OpsIs w' (From B) A' pn c' ops->R (.returned (.tuple #[.agg noMail,.agg #[.int .i64 3,.int .i64 epoch,.int .i64 site,.int .i64 0,.int .i64 0,.int .i64 0,.int .i64 0,.int .i64 0,.int .i64 0,.string ⟨#[]⟩,.int .i64 0,.slice none 0 0,.int .i64 aN,.int .i64 aE,.slice A' pn c',.int .i64 0],.int .i64 2])) w') :
 (part [1,1,1,1,1,1,1] (codeOf meetF)).wp prog (bodyPost prog meetF R) a w:=by
 obtain⟨cs6,k6,z6⟩:=h6
 obtain⟨cs7,k7,z7⟩:=h7
 have hbb:b6<w.drew.heap.size/\b7<w.drew.heap.size/\B<=b6:=⟨k6.lt,k7.lt,hlo.1⟩
 have hg:(Blk w.drew b4 30 (mailC kind term index prev commit good eA en ec data hA hn hc epoch site aN aE whN whE oA on oc pA pn pc)/\OpsIs w.drew Sx pA pn pc ops/\Below B W0 w.drew/\w.drew.heap.size<=w.drew.heap.size)/\(∃ cs,Blk w.drew b6 30 cs/\cs.size=17)/\(∃ cs,Blk w.drew b7 47 cs/\cs.size=16):=
  ⟨⟨h4,ho.below ⟨rfl,rfl,rfl,Nat.le_refl _,fun _ _=>rfl⟩,hb.drew,Nat.le_refl _⟩,⟨cs6,k6,z6⟩,⟨cs7,k7,z7⟩⟩
 refine Wt ?_
 obtain⟨w0,hw0⟩:∃ w0,w0=w.drew:=⟨_,rfl⟩
 rw [<-hw0] at hg hbb
 obtain⟨HG0,HBB,HZ,HOK,HNE,HLO,HR⟩:=J7 hg hbb hz hok hne hlo hR
 clear h4 ho hz hok k6 k7 z6 z7 hne hlo hb hR hg hbb
 refine gg hfr fun t=>?_
 generalize w=w1 at hw0 ⊢
 have HW0:=J hw0
 clear hw0
 refine wp_region_all kr (fun i v W=>match i with|0=>v=.agg noMail|1=>v=.pointer (some ⟨b4,9,none⟩)|2=>v=epoch|3=>v=.pointer (some ⟨b4,10,none⟩)|4=>v=site|5=>v=.pointer (some ⟨b4,11,none⟩)|6=>v=.pointer (some ⟨b4,11,none⟩)|7=>v=aN|8=>v=.pointer (some ⟨b4,11,none⟩)|9=>v=.pointer (some ⟨b4,12,none⟩)|10=>v=aE|11=>v=.pointer (some ⟨b4,16,none⟩)|12=>v=.slice pA pn pc|13=>∃ A' c',v=.slice A' pn c'/\OpsIs W (From w0.heap.size) A' pn c' ops|14=>∃ A' c',v=.agg #[.int .i64 3,.int .i64 epoch,.int .i64 site,.int .i64 0,.int .i64 0,.int .i64 0,.int .i64 0,.int .i64 0,.int .i64 0,.string ⟨#[]⟩,.int .i64 0,.slice none 0 0,.int .i64 aN,.int .i64 aE,.slice A' pn c',.int .i64 0]/\OpsIs W (From w0.heap.size) A' pn c' ops|15=>Blk W b6 30 noMail|16=>∃ A' c',Blk W b7 47 #[.int .i64 3,.int .i64 epoch,.int .i64 site,.int .i64 0,.int .i64 0,.int .i64 0,.int .i64 0,.int .i64 0,.int .i64 0,.string ⟨#[]⟩,.int .i64 0,.slice none 0 0,.int .i64 aN,.int .i64 aE,.slice A' pn c',.int .i64 0]/\OpsIs W (From w0.heap.size) A' pn c' ops|17=>v=.int .i64 2|_=>True) (fun W=>(Blk W b4 30 (mailC kind term index prev commit good eA en ec data hA hn hc epoch site aN aE whN whE oA on oc pA pn pc)/\OpsIs W Sx pA pn pc ops/\Below B W0 W/\w0.heap.size<=W)/\(∃ cs,Blk W b6 30 cs/\cs.size=17)/\(∃ cs,Blk W b7 47 cs/\cs.size=16)) (fun W W'=>Kept (But b6 b7) W W'/\(Blk W b6 30 noMail->Blk W' b6 30 noMail)/\((∃ A' c',Blk W b7 47 #[.int .i64 3,.int .i64 epoch,.int .i64 site,.int .i64 0,.int .i64 0,.int .i64 0,.int .i64 0,.int .i64 0,.int .i64 0,.string ⟨#[]⟩,.int .i64 0,.slice none 0 0,.int .i64 aN,.int .i64 aE,.slice A' pn c',.int .i64 0]/\OpsIs W (From w0.heap.size) A' pn c' ops)->∃ A' c',Blk W' b7 47 #[.int .i64 3,.int .i64 epoch,.int .i64 site,.int .i64 0,.int .i64 0,.int .i64 0,.int .i64 0,.int .i64 0,.int .i64 0,.string ⟨#[]⟩,.int .i64 0,.slice none 0 0,.int .i64 aN,.int .i64 aE,.slice A' pn c',.int .i64 0]/\OpsIs W' (From w0.heap.size) A' pn c' ops)) kr ?hG ?hmono ?hstep ?hend
 case hG=>exact (show ∀ W,W=w0->(fun W=>(Blk W b4 30 (mailC kind term index prev commit good eA en ec data hA hn hc epoch site aN aE whN whE oA on oc pA pn pc)/\OpsIs W Sx pA pn pc ops/\Below B W0 W/\w0.heap.size<=W)/\(∃ cs,Blk W b6 30 cs/\cs.size=17)/\(∃ cs,Blk W b7 47 cs/\cs.size=16)) W from fun W h=>by rw [h];exact HG0.out) _ HW0.out.symm
 case hmono=>
  intro i v W W' hx hv
  match i with
  | 13=>
   exact Y77
  | 14=>
   exact Y77
  | 15=>
   exact hx.2.1 hv
  | 16=>
   exact hx.2.2 hv
  | 0|1|2|3|4|5|6|7|8|9|10|11|12|17=>exact hv
  | i+18=>exact hv
 case hstep=>
  intro i o F U W ho hGW hat hoff hp
  have hrefl:=fun W:World=>(⟨Kept.refl _ _,fun h=>h,fun h=>h⟩:Kept (But b6 b7) W W/\(Blk W b6 30 noMail->Blk W b6 30 noMail)/\((∃ A' c',Blk W b7 47 #[.int .i64 3,.int .i64 epoch,.int .i64 site,.int .i64 0,.int .i64 0,.int .i64 0,.int .i64 0,.int .i64 0,.int .i64 0,.string ⟨#[]⟩,.int .i64 0,.slice none 0 0,.int .i64 aN,.int .i64 aE,.slice A' pn c',.int .i64 0]/\OpsIs W (From w0.heap.size) A' pn c' ops)->∃ A' c',Blk W b7 47 #[.int .i64 3,.int .i64 epoch,.int .i64 site,.int .i64 0,.int .i64 0,.int .i64 0,.int .i64 0,.int .i64 0,.int .i64 0,.string ⟨#[]⟩,.int .i64 0,.slice none 0 0,.int .i64 aN,.int .i64 aE,.slice A' pn c',.int .i64 0]/\OpsIs W (From w0.heap.size) A' pn c' ops))
  have:=ot 4 b4
  have e6:=oo 6 b6
  have t6:=act_tmp e6
  have e7:=oo 7 b7
  have t7:=act_tmp e7
  obtain⟨qa,qb⟩:=J2 hat hp
  clear hat hoff hp
  match i with
   | 0|1|3|5|8|11|17=>cases ho;exact vna
   | 2=>cases ho;have:=tx 1 114;have d:=hGW.1.1.c1 9;exact vna
   | 4=>cases ho;have:=tx 3 116;have d:=hGW.1.1.c1 10;exact vna
   | 6=>cases ho;have:=tx 5 118;exact vna
   | 7=>cases ho;have:=tx 6 119;have d:=hGW.1.1.c1 11;exact vna
   | 9=>cases ho;have:=tx 8 121;exact vna
   | 10=>cases ho;have:=tx 9 122;have d:=hGW.1.1.c1 12;exact vna
   | 12=>cases ho;have:=tx 11 124;have d:=hGW.1.1.c1 16;exact vna
   | 13=>
    cases ho;refine on_ (wanted_none rfl) ?_;have:=tx 12 125
    refine wp_enter' 62 #[.slice pA pn pc] (by unfold execOp;go_simp) ?_
    refine (copiedL_any pA pn pc ops W hGW.1.2.1 HZ.out HOK.out).mono ?_
    rintro e W' ⟨A',c',rfl,hi,hb⟩
    have hs:=hGW.1.2.2.2;obtain⟨⟨g1,g2,g3,g4⟩,⟨cs,g5,g6⟩,⟨cs',g7,g8⟩⟩:=hGW
    exact⟨_,rfl,_,rfl,⟨A',c',rfl,hi.mono fun b _ h=>(show w0.heap.size<=b from Nat.le_trans hs h)⟩,⟨⟨g1.below hb g1.lt,g2.below hb,g3.trans (hb.mono (by have:=HBB.out;omega)),Nat.le_trans hs hb.size⟩,⟨cs,g5.below hb g5.lt,g6⟩,⟨cs',g7.below hb g7.lt,g8⟩⟩,Kept.of _ hb,fun h=>h.below hb h.lt,fun ⟨A',c',h1,h2⟩=>⟨A',c',h1.below hb h1.lt,h2.below hb⟩⟩
   | 14=>
    cases ho;refine on_ (wanted_none rfl) ?_;have:=tx 2 115;have:=tx 4 117;have:=tx 7 120;have:=tx 10 123;have e126:=qa.out 13 126 kd rfl
    have v126:=qb.out ⟨13,.data⟩ (by simp) rfl
    obtain⟨A',c',hu,hi⟩:=v126;rw [hu] at e126;have t126:=act_tmp e126
    exact wp_value' (.agg #[.int .i64 3,.int .i64 epoch,.int .i64 site,.int .i64 0,.int .i64 0,.int .i64 0,.int .i64 0,.int .i64 0,.int .i64 0,.string ⟨#[]⟩,.int .i64 0,.slice none 0 0,.int .i64 aN,.int .i64 aE,.slice A' pn c',.int .i64 0]) W (by unfold execOp;go_simp) ⟨_,rfl,⟨A',c',rfl,hi⟩,hGW,hrefl W⟩
   | 15=>
    cases ho;refine on_ (wanted_none rfl) ?_;have e113:=ev qa qb 0 113;have t113:=act_tmp e113;obtain⟨⟨g1,g2,g3,g4⟩,⟨cs,g5,g6⟩,⟨cs',g7,g8⟩⟩:=hGW;obtain⟨l,hl⟩:∃ l,l=noMail.toList:=⟨_,rfl⟩
    have hla:l.toArray=noMail:=by rw [hl]
    have hll:l.length=17:=by rw [hl];rfl
    have hn:=g5.setCells_ l (by rw [g6,hll])
    rw [hla] at hn;have hsv:=save_setCells W b6 0 l;have hsz:=size_setCells W b6 0 l
    have hkb:Kept (But b6 b7) W (W.setCells b6 0 l):=(Kept.refl _ _).cells _ _ (.inl fun h=>h.1 rfl) _
    have hg1:=hsv.blk g1 HNE.out.2.1;have hg2:OpsIs (W.setCells b6 0 l) Sx pA pn pc ops:=g2.kept ((Kept.refl _ _).cells _ _ (.inl HNE.out.2.2.2.1) _);have hg3:Below B W0 (W.setCells b6 0 l):=below_setCells HLO.out.1 g3 _ _;have hg7:=hsv.blk g7 (Ne.symm HNE.out.1)
    have hf2:(∃ A' c',Blk W b7 47 #[.int .i64 3,.int .i64 epoch,.int .i64 site,.int .i64 0,.int .i64 0,.int .i64 0,.int .i64 0,.int .i64 0,.int .i64 0,.string ⟨#[]⟩,.int .i64 0,.slice none 0 0,.int .i64 aN,.int .i64 aE,.slice A' pn c',.int .i64 0]/\OpsIs W (From w0.heap.size) A' pn c' ops)->∃ A' c',Blk (W.setCells b6 0 l) b7 47 #[.int .i64 3,.int .i64 epoch,.int .i64 site,.int .i64 0,.int .i64 0,.int .i64 0,.int .i64 0,.int .i64 0,.int .i64 0,.string ⟨#[]⟩,.int .i64 0,.slice none 0 0,.int .i64 aN,.int .i64 aE,.slice A' pn c',.int .i64 0]/\OpsIs (W.setCells b6 0 l) (From w0.heap.size) A' pn c' ops:=by
     rintro ⟨A',c',h1,h2⟩
     exact⟨A',c',hsv.blk h1 (Ne.symm HNE.out.1),h2.kept ⟨hkb.1,fun b k1 k2=>hkb.2 b ⟨by have:w0.heap.size<=b:=k1;have:=HBB.out;omega,by have:w0.heap.size<=b:=k1;have:=HBB.out;omega⟩ k2⟩⟩
    refine wp_store_mid 30 (.tmp 6) (.tmp 113) rfl b6 0 noMail e6 e113 (g5.there_ 0 _ (by rw [g6];exact Nat.le_refl _)) Try.sizeMail noMail_one ?_
    rw [<-hl];clear hl
    have hsc:∃ cs,Blk (W.setCells b6 0 l) b6 30 cs/\cs.size=17:=⟨_,hn,by rw [<-hla];simp [hll]⟩
    have hg4:w0.heap.size<=(W.setCells b6 0 l).heap.size:=by rw [hsz];exact g4
    exact⟨_,rfl,hn,⟨⟨hg1,hg2,hg3,hg4⟩,hsc,⟨cs',hg7,g8⟩⟩,hkb,fun _=>hn,hf2⟩
   | 16=>
    cases ho;refine on_ (wanted_none rfl) ?_;have e127:=qa.out 14 127 kd rfl
    have v127:=qb.out ⟨14,.data⟩ (by simp) rfl
    obtain⟨A',c',hu,hi⟩:=v127;rw [hu] at e127;obtain⟨⟨g1,g2,g3,g4⟩,⟨cs,g5,g6⟩,⟨cs',g7,g8⟩⟩:=hGW;obtain⟨l,hl⟩:∃ l,l=(#[.int .i64 3,.int .i64 epoch,.int .i64 site,.int .i64 0,.int .i64 0,.int .i64 0,.int .i64 0,.int .i64 0,.int .i64 0,.string ⟨#[]⟩,.int .i64 0,.slice none 0 0,.int .i64 aN,.int .i64 aE,.slice A' pn c',.int .i64 0]:Array Value).toList:=⟨_,rfl⟩
    have hla:l.toArray=#[.int .i64 3,.int .i64 epoch,.int .i64 site,.int .i64 0,.int .i64 0,.int .i64 0,.int .i64 0,.int .i64 0,.int .i64 0,.string ⟨#[]⟩,.int .i64 0,.slice none 0 0,.int .i64 aN,.int .i64 aE,.slice A' pn c',.int .i64 0]:=by rw [hl]
    have hll:l.length=16:=by rw [hl];rfl
    have hn:=g7.setCells_ l (by rw [g8,hll])
    rw [hla] at hn;have hsv:=save_setCells W b7 0 l;have hsz:=size_setCells W b7 0 l
    have hkb:Kept (But b6 b7) W (W.setCells b7 0 l):=(Kept.refl _ _).cells _ _ (.inl fun h=>h.2 rfl) _
    have hi':OpsIs (W.setCells b7 0 l) (From w0.heap.size) A' pn c' ops:=hi.kept ⟨hkb.1,fun b k1 k2=>hkb.2 b ⟨by have:w0.heap.size<=b:=k1;have:=HBB.out;omega,by have:w0.heap.size<=b:=k1;have:=HBB.out;omega⟩ k2⟩
    have hg1:=hsv.blk g1 HNE.out.2.2.1;have hg2:OpsIs (W.setCells b7 0 l) Sx pA pn pc ops:=g2.kept ((Kept.refl _ _).cells _ _ (.inl HNE.out.2.2.2.2) _);have hg3:Below B W0 (W.setCells b7 0 l):=below_setCells HLO.out.2 g3 _ _;have hg5:=hsv.blk g5 HNE.out.1
    have hg6:Blk W b6 30 noMail->Blk (W.setCells b7 0 l) b6 30 noMail:=fun h=>hsv.blk h HNE.out.1
    refine wp_store_mid 47 (.tmp 7) (.tmp 127) rfl b7 0 #[.int .i64 3,.int .i64 epoch,.int .i64 site,.int .i64 0,.int .i64 0,.int .i64 0,.int .i64 0,.int .i64 0,.int .i64 0,.string ⟨#[]⟩,.int .i64 0,.slice none 0 0,.int .i64 aN,.int .i64 aE,.slice A' pn c',.int .i64 0] e7 e127 (g7.there_ 0 _ (by rw [g8];exact Nat.le_refl _)) Try.sizeCmd propCells_one ?_
    rw [<-hl];clear hl;have hf2:∃ A' c',Blk (W.setCells b7 0 l) b7 47 #[.int .i64 3,.int .i64 epoch,.int .i64 site,.int .i64 0,.int .i64 0,.int .i64 0,.int .i64 0,.int .i64 0,.int .i64 0,.string ⟨#[]⟩,.int .i64 0,.slice none 0 0,.int .i64 aN,.int .i64 aE,.slice A' pn c',.int .i64 0]/\OpsIs (W.setCells b7 0 l) (From w0.heap.size) A' pn c' ops:=⟨A',c',hn,hi'⟩
    have hsc:∃ cs,Blk (W.setCells b7 0 l) b7 47 cs/\cs.size=16:=⟨_,hn,by rw [<-hla];simp [hll]⟩
    have hg4:w0.heap.size<=(W.setCells b7 0 l).heap.size:=by rw [hsz];exact g4
    exact⟨_,rfl,hf2,⟨⟨hg1,hg2,hg3,hg4⟩,⟨cs,hg5,g6⟩,hsc⟩,hkb,hg6,fun _=>hf2⟩
   | i+18=>exact absurd ho (by simp)
 case hend=>
  intro U W hGW hV
  have hk6:Blk W b6 30 noMail:=hV 15 kd
  obtain⟨A',c',hk7,hi⟩:∃ A' c',Blk W b7 47 #[.int .i64 3,.int .i64 epoch,.int .i64 site,.int .i64 0,.int .i64 0,.int .i64 0,.int .i64 0,.int .i64 0,.int .i64 0,.string ⟨#[]⟩,.int .i64 0,.slice none 0 0,.int .i64 aN,.int .i64 aE,.slice A' pn c',.int .i64 0]/\OpsIs W (From w0.heap.size) A' pn c' ops:=hV 16 kd
  have h8:U 17=.int .i64 2:=hV 17 kd
  obtain⟨HK6,HK7,HI,HB⟩:=J4 hk6 hk7 hi hGW.1.2.2.1
  clear hV hGW hk6 hk7 hi
  refine wp_ret ?_
  refine bodyPost_ret (meet_results (b6:=b6) (b7:=b7) (by simp [putU,dstAt,Act.put]) (by simp [putU,dstAt,Act.put]) (by simp [putU,dstAt,Act.put];exact h8) HK6.out HK7.out) (by simp [putU,dstAt,Act.put]) ?_
  exact HR.out A' c' _ HB.out (HI.out.mono fun q _ h=>(show B<=q from Nat.le_trans (by have:=HBB.out;omega) h))
end
def MeetR (W:World) (p:MailC×CmdC×Int):Ending->World->Prop:=fun x w'=>∃ mc cc,x=.returned (.tuple #[.agg mc,.agg cc,.int .i64 p.2.2])/\MailIs w' (From W.heap.size) mc p.1/\CmdIs w' (From W.heap.size) cc p.2.1/\Below W W w'
section
variable {good:Bool} {E N e sE sN:Int} {holes:List Int} {cs:List OpC} {c n:Nat} {S:Nat->Prop} {A:O} {w:World}
theorem ansM_is (e:Int) (good:Bool) (N E sN sE:Int) (h:IntIs w S A n c holes):MailIs w S (mailC 10 0 0 0 0 good none 0 0 ⟨#[]⟩ none 0 0 e 0 N E sN sE A n c none 0 0) (ansM e good N E sN sE holes):=
 ⟨none,0,0,none,0,0,A,n,c,none,0,0,rfl,⟨Rs.nil_ _ _ _ _,Nat.le_refl _,Nat.zero_le _⟩,⟨Rs.nil_ _ _ _ _,Nat.le_refl _,Nat.zero_le _⟩,h,OpsIs.nil_ _ _ _ _ (Nat.zero_le _)⟩
theorem ints_nil (w:World) (S:Nat->Prop):IntIs w S none 0 0 []:=⟨Rs.nil_ _ _ _ _,Nat.le_refl _,Nat.zero_le _⟩
theorem mailZ_is (w:World) (S:Nat->Prop):MailIs w S noMail mailZ:=
 ⟨none,0,0,none,0,0,none,0,0,none,0,0,rfl,⟨Rs.nil_ _ _ _ _,Nat.le_refl _,Nat.zero_le _⟩,⟨Rs.nil_ _ _ _ _,Nat.le_refl _,Nat.zero_le _⟩,⟨Rs.nil_ _ _ _ _,Nat.le_refl _,Nat.zero_le _⟩,OpsIs.nil_ _ _ _ _ (Nat.zero_le _)⟩
theorem cmdZ_is (w:World) (S:Nat->Prop):CmdIs w S noCmd cmdZ:=
 ⟨none,0,0,none,0,0,rfl,⟨Rs.nil_ _ _ _ _,Nat.le_refl _,Nat.zero_le _⟩,OpsIs.nil_ _ _ _ _ (Nat.zero_le _)⟩
theorem propC_is (m:MailC) (h:OpsIs w S A n c m.ops):CmdIs w S #[.int .i64 3,.int .i64 m.epoch,.int .i64 m.site,.int .i64 0,.int .i64 0,.int .i64 0,.int .i64 0,.int .i64 0,.int .i64 0,.string ⟨#[]⟩,.int .i64 0,.slice none 0 0,.int .i64 m.atN,.int .i64 m.atE,.slice A n c,.int .i64 0] (propC m):=
 ⟨none,0,0,A,n,c,rfl,⟨Rs.nil_ _ _ _ _,Nat.le_refl _,Nat.zero_le _⟩,h⟩
theorem ansM_ok (h1:I64 e) (h2:I64 N) (h3:I64 E) (h4:I64 sN) (h5:I64 sE) (h6:holes.length*8<=140737488351232) (h7:∀ z∈holes,I64 z):(ansM e good N E sN sE holes).Ok:=by
 have z:I64 0:=⟨by omega,by omega⟩
 exact⟨⟨by show (_:Int)<=10;omega,by show (10:Int)<=_;omega⟩,z,z,z,z,Nat.zero_le _,Nat.zero_le _,Nat.zero_le _,h1,z,h2,h3,h4,h5,h6,h7,Nat.zero_le _,fun _ hz=>(by cases hz)⟩
theorem endC_ok (h1:I64 N) (h2:I64 E) (h:∀ c∈cs,c.Ok):I64 (endC N E cs).1/\I64 (endC N E cs).2:=by
 unfold endC
 cases hg:cs.getLast? with
 | none=>exact⟨h1,h2⟩
 | some o=>
  have hm:o∈cs:=List.mem_of_getLast? hg
  exact⟨(h o hm).n,(h o hm).epoch⟩
theorem lastE_any (N E:Int) (A:O) (n c:Nat) (cs:List OpC) (w:World) (h:OpsIs w S A n c cs) (hn:n<=4294967296) :
 Calls prog 60 #[.agg #[N,E],.slice A n c] w fun x w'=>x=.returned (.agg #[.int .i64 (endC N E cs).1,.int .i64 (endC N E cs).2])/\Below w w w':=by
 obtain⟨os,h1,h2,h3,h4⟩:=h
 have hl:=h2.len
 have e:endC N E cs=lastOf N E os:=by
  unfold endC lastOf
  rw [List.getLast?_eq_getElem?,List.getLast?_eq_getElem?]
  cases ho:os[os.length-1]? with
  | none=>
   exact Y63
  | some o=>
   exact Y141
 rw [e]
 exact last_any N E A n c os w h1.reads hn
end
structure Mt (W w:World) (b4 b5 b6 b7:Nat) (m:MailC) (mc:Array Value) (sN sE:Int) (jA:O) (jn jc:Nat) (holes:List Int) (ans:Array Value):Prop where
 k4:Blk w b4 30 mc
 mail:MailIs w (fun b=>b<W) mc m
 k5:Blk w b5 32 #[sN,sE,.slice jA jn jc]
 ints:IntIs w (fun b=>b<W) jA jn jc holes
 k6:Blk w b6 30 ans
 k7:Blk w b7 47 noCmd
 bel:Below W W w
 lo:W.heap.size<=b4/\b4<b5/\b5<b6/\b6<b7
section
variable {W w w':World} {b4 b5 b6 b7:Nat} {m:MailC} {mc:Array Value} {sN sE:Int} {jA:O} {jn jc:Nat} {holes:List Int} {ans:Array Value}
section
variable {ans':Array Value}
section
variable (h:Mt W w b4 b5 b6 b7 m mc sN sE jA jn jc holes ans)
include h
theorem Mt.below (hb:Below w w w'):Mt W w' b4 b5 b6 b7 m mc sN sE jA jn jc holes ans:=
 ⟨h.k4.below hb h.k4.lt,h.mail.below hb,h.k5.below hb h.k5.lt,h.ints.below hb,h.k6.below hb h.k6.lt,h.k7.below hb h.k7.lt,h.bel.trans (hb.mono h.bel.size),h.lo⟩
theorem Mt.answer (hk:Kept (fun b=>b≠b6) w w') (h6:Blk w' b6 30 ans') (hb:Below b6 w w'):Mt W w' b4 b5 b6 b7 m mc sN sE jA jn jc holes ans':=by
 have hlo:=h.lo
 have hs:=h.bel.size
 have n4:b4≠b6:=by omega
 have n5:b5≠b6:=by omega
 have n7:b7≠b6:=by omega
 have hkl:Kept (fun b=>b<W) w w':=hk.mono fun b _ hb=>by have:b<W:=hb;omega
 exact⟨h.k4.kept_ hk n4,h.mail.kept hkl,h.k5.kept_ hk n5,h.ints.kept hkl,h6,h.k7.kept_ hk n7,h.bel.trans (hb.mono (by omega)),hlo⟩
end
end
end
section
section
variable {ans cs:Array Value} {good:Bool} {E fence sE sN whE whN xE xn yE yn:Int} {holes:List Int} {os:List OpC} {m y:MailC} {b11 b12 b4 b5 b6 b7 c ec en g hc hn jc jn kc kn n oc on pc pn:Nat} {Sx Sy:Nat->Prop} {A eA hA jA kA oA pA:O} {y0 y1 y10 y11 y12 y13 y14 y15 y16 y2 y3 y4 y5 y6 y7 y8 y9:Value} {W w:World}
theorem mt5 (hE:E=if m.epoch<fence then fence else m.epoch) (Q:Z) (a:Act) (hfr:Fr 128 a [(4,b4),(5,b5),(6,b6),(7,b7),(10,fence),(11,b11)]) (h:Mt W w b4 b5 b6 b7 m (mailC m.kind m.term m.index m.prev m.commit m.good eA en ec m.data hA hn hc m.epoch m.site m.atN m.atE m.whN m.whE oA on oc pA pn pc) sN sE jA jn jc holes noMail) (hQ:∀ a' w',Fr 128 a' [(4,b4),(5,b5),(6,b6),(7,b7),(10,fence),(11,b11)]->Mt W w' b4 b5 b6 b7 m (mailC m.kind m.term m.index m.prev m.commit m.good eA en ec m.data hA hn hc m.epoch m.site m.atN m.atE m.whN m.whE oA on oc pA pn pc) sN sE jA jn jc holes (mailC 10 0 0 0 0 false none 0 0 ⟨#[]⟩ none 0 0 E 0 0 0 0 0 none 0 0 none 0 0)->Kept (fun b=>b≠b6) w w'->Q .normal a' w') :
 (part [1,1,1,1,0] (codeOf meetF)).wp prog Q a w:=by
 have c9:=h.k4.c1 9
 have hn:=h.k6.setCells_ (mailC 10 0 0 0 0 false none 0 0 ⟨#[]⟩ none 0 0 E 0 0 0 0 0 none 0 0 none 0 0).toList rfl
 have hk:Kept (fun b=>b≠b6) w (w.setCells b6 0 (mailC 10 0 0 0 0 false none 0 0 ⟨#[]⟩ none 0 0 E 0 0 0 0 0 none 0 0 none 0 0).toList):=(Kept.refl _ _).cells _ _ (.inl fun h=>h rfl) _
 have hm:=h.answer hk hn (below_setCells (Nat.le_refl _) (Below.refl _ _) _ _)
 obtain⟨HQ,HM,HK⟩:=J3 hQ hm hk
 have HT:=J (h.k6.there_ 0 17 (by show 0+17<=17;omega))
 clear hQ h hn hm hk
 refine gg hfr fun t=>?_
 by_cases hlt:m.epoch<fence
 ·obtain rfl:fence=E:=by rw [hE,if_pos hlt]
  have d1:decide (m.epoch<fence)=true:=decide_eq_true hlt
  clear hE
  go_wp2_with (refine wpList_store_mid rfl 30 (.tmp 6) (.tmp 51) rfl b6 0 (mailC 10 0 0 0 0 false none 0 0 ⟨#[]⟩ none 0 0 fence 0 0 0 0 0 none 0 0 none 0 0) rfl rfl HT.out Try.sizeMail mailC_one ?_)
  exact HQ.out _ _ ff HM.out HK.out
 ·obtain rfl:E=m.epoch:=by rw [hE,if_neg hlt]
  have d1:decide (m.epoch<fence)=false:=decide_eq_false hlt
  clear hE
  go_wp2_with (refine wpList_store_mid rfl 30 (.tmp 6) (.tmp 51) rfl b6 0 (mailC 10 0 0 0 0 false none 0 0 ⟨#[]⟩ none 0 0 m.epoch 0 0 0 0 0 none 0 0 none 0 0) rfl rfl HT.out Try.sizeMail mailC_one ?_)
  exact HQ.out _ _ ff HM.out HK.out
theorem mt13 (hz:m.ops.length<=4294967296) (Q:Z) (a:Act) (hfr:Fr 128 a [(4,b4),(5,b5),(6,b6),(7,b7),(11,b11)]) (h:Mt W w b4 b5 b6 b7 m (mailC m.kind m.term m.index m.prev m.commit m.good eA en ec m.data hA hn hc m.epoch m.site m.atN m.atE m.whN m.whE oA on oc pA pn pc) sN sE jA jn jc holes (mailC 10 0 0 0 0 false none 0 0 ⟨#[]⟩ none 0 0 E 0 0 0 0 0 none 0 0 none 0 0)) (hQ:∀ a' w',Fr 128 a' [(4,b4),(5,b5),(6,b6),(7,b7),(11,b11)]->Mt W w' b4 b5 b6 b7 m (mailC m.kind m.term m.index m.prev m.commit m.good eA en ec m.data hA hn hc m.epoch m.site m.atN m.atE m.whN m.whE oA on oc pA pn pc) sN sE jA jn jc holes (mailC 10 0 0 0 0 true none 0 0 ⟨#[]⟩ none 0 0 E 0 (endC m.atN m.atE m.ops).1 (endC m.atN m.atE m.ops).2 0 0 none 0 0 none 0 0)->Kept (fun b=>b≠b6) w w'->Q .normal a' w') :
 (part [1,1,1,1,1,1,0,1,0,1,1,0,0] (codeOf meetF)).wp prog Q a w:=by
 obtain⟨c11,c12⟩:=h.k4.cs 11 2
 have c16:=h.k4.c1 16
 obtain⟨_,_,_,_,_,_,_,_,_,xA,xn,xc,he,_,_,_,hops⟩:=h.mail
 have he2:=congrArg (fun c=>c[16]?) he
 simp at he2
 obtain⟨rfl,rfl,rfl⟩:=he2
 have hlen:=hops.len
 have HL:=J (lastE_any m.atN m.atE pA pn pc m.ops w hops (by omega))
 obtain⟨HM,HQ⟩:=J2 h hQ
 clear hQ h hops he hlen
 refine gg hfr fun t=>?_
 go_wp2_with fail
 refine HL.out.mono ?_
 rintro e w2 ⟨rfl,hb⟩
 have hm:=HM.out.below hb
 have f5:=hm.k6.frozen
 have d5:=hm.k6.c1 5
 obtain⟨d11,d12⟩:=hm.k6.cs 11 2
 have hn:=((hm.k6.set_ 5 (.bool true)).set_ 11 (.int .i64 (endC m.atN m.atE m.ops).1)).set_ 12 (.int .i64 (endC m.atN m.atE m.ops).2)
 have hk:Kept (fun b=>b≠b6) w2 (((w2.setCell ⟨b6,5,none⟩ (.bool true)).setCell ⟨b6,11,none⟩ (.int .i64 (endC m.atN m.atE m.ops).1)).setCell ⟨b6,12,none⟩ (.int .i64 (endC m.atN m.atE m.ops).2)):=(((Kept.refl _ _).set_ ⟨b6,5,none⟩ (.inl fun h=>h rfl) _).set_ ⟨b6,11,none⟩ (.inl fun h=>h rfl) _).set_ ⟨b6,12,none⟩ (.inl fun h=>h rfl) _
 have hm2:=hm.answer hk hn ((((Below.refl _ _).setCell (p:=⟨b6,5,none⟩) (Nat.le_refl _) _).setCell (p:=⟨b6,11,none⟩) (Nat.le_refl _) _).setCell (p:=⟨b6,12,none⟩) (Nat.le_refl _) _)
 have HM2:=J hm2
 have HK:=J ((Kept.of (fun b=>b≠b6) hb).trans hk)
 clear hb hm hn hk hm2
 go_wp2_with fail
 exact HQ.out _ _ ff HM2.out HK.out
section
variable (Q:Z) (a:Act)
include Q a
theorem mt14 (hfr:Fr 128 a [(4,b4),(5,b5),(6,b6),(7,b7),(11,b11)]) (h:Mt W w b4 b5 b6 b7 m (mailC m.kind m.term m.index m.prev m.commit m.good eA en ec m.data hA hn hc m.epoch m.site m.atN m.atE m.whN m.whE oA on oc pA pn pc) sN sE jA jn jc holes (mailC 10 0 0 0 0 good none 0 0 ⟨#[]⟩ none 0 0 E 0 xn xE 0 0 none 0 0 none 0 0)) (hQ:∀ a' w',Fr 128 a' [(4,b4),(5,b5),(6,b6),(7,b7),(11,b11),(12,(w:Nat))]->Blk w' w 30 (mailC 10 0 0 0 0 good none 0 0 ⟨#[]⟩ none 0 0 E 0 xn xE 0 0 none 0 0 none 0 0)->Below w w w'->Q .normal a' w') :
 (part [1,1,1,1,1,1,0,1,0,1,1,0,1,0] (codeOf meetF)).wp prog Q a w:=by
 have hr:=h.k6.range
 have hnew:=Blk.new w 30 noMail
 have hn:=hnew.setCells_ (mailC 10 0 0 0 0 good none 0 0 ⟨#[]⟩ none 0 0 E 0 xn xE 0 0 none 0 0 none 0 0).toList rfl
 have hb:Below w w ((w.alloc (.cells noMail 30)).setCells w.heap.size 0 (mailC 10 0 0 0 0 good none 0 0 ⟨#[]⟩ none 0 0 E 0 xn xE 0 0 none 0 0 none 0 0).toList):=below_setCells (Nat.le_refl _) ((Below.refl _ _).alloc (Nat.le_refl _) _) _ _
 obtain⟨HQ,HR⟩:=J2 hQ hr
 have HT:=J (hnew.there_ 0 17 (by show 0+17<=17;omega))
 obtain⟨HN,HB⟩:=J2 hn hb
 clear hQ h hn hr hb hnew
 refine gg hfr fun t=>?_
 go_wp2_with (first|refine wpList_load_mid rfl 30 (.tmp 6) rfl b6 0 rfl _ _ HR.out underlying30 rfl Try.sizeMail ?_|refine wpList_store_mid rfl 30 (.tmp 12) (.tmp 92) rfl w.heap.size 0 (mailC 10 0 0 0 0 good none 0 0 ⟨#[]⟩ none 0 0 E 0 xn xE 0 0 none 0 0 none 0 0) rfl rfl HT.out Try.sizeMail mailC_one ?_)
 exact HQ.out _ _ ff HN.out HB.out
section
variable (hfr:Fr 128 a [(4,b4),(5,b5),(6,b6),(7,b7),(11,b11),(12,b12)])
include hfr
theorem mt17 (h:Mt W w b4 b5 b6 b7 m (mailC m.kind m.term m.index m.prev m.commit m.good eA en ec m.data hA hn hc m.epoch m.site m.atN m.atE m.whN m.whE oA on oc pA pn pc) sN sE jA jn jc holes (mailC 10 0 0 0 0 true none 0 0 ⟨#[]⟩ none 0 0 E 0 xn xE 0 0 none 0 0 none 0 0)) (h12:Blk w b12 30 (mailC 10 0 0 0 0 true none 0 0 ⟨#[]⟩ none 0 0 E 0 yn yE whN whE kA kn kc none 0 0)) (hQ:∀ a' w',Fr 128 a' [(4,b4),(5,b5),(6,b6),(7,b7),(11,b11)]->Mt W w' b4 b5 b6 b7 m (mailC m.kind m.term m.index m.prev m.commit m.good eA en ec m.data hA hn hc m.epoch m.site m.atN m.atE m.whN m.whE oA on oc pA pn pc) sN sE jA jn jc holes (mailC 10 0 0 0 0 true none 0 0 ⟨#[]⟩ none 0 0 E 0 yn yE whN whE kA kn kc none 0 0)->Kept (fun b=>b≠b6) w w'->Q .normal a' w') :
 (part [1,1,1,1,1,1,0,1,0,1,1,0,1,1,1,0,1,0] (codeOf meetF)).wp prog Q a w:=by
 have hr:=h12.range
 have hn:=h.k6.setCells_ (mailC 10 0 0 0 0 true none 0 0 ⟨#[]⟩ none 0 0 E 0 yn yE whN whE kA kn kc none 0 0).toList rfl
 have hk:Kept (fun b=>b≠b6) w (w.setCells b6 0 (mailC 10 0 0 0 0 true none 0 0 ⟨#[]⟩ none 0 0 E 0 yn yE whN whE kA kn kc none 0 0).toList):=(Kept.refl _ _).cells _ _ (.inl fun h=>h rfl) _
 have hm:=h.answer hk hn (below_setCells (Nat.le_refl _) (Below.refl _ _) _ _)
 obtain⟨HQ,HR,HM,HK⟩:=J4 hQ hr hm hk
 have HT:=J (h.k6.there_ 0 17 (by show 0+17<=17;omega))
 clear hQ h hn hr hm hk h12
 refine gg hfr fun t=>?_
 go_wp2_with (first|refine wpList_load_mid rfl 30 (.tmp 12) rfl b12 0 rfl _ _ HR.out underlying30 rfl Try.sizeMail ?_|refine wpList_store_mid rfl 30 (.tmp 6) (.tmp 110) rfl b6 0 (mailC 10 0 0 0 0 true none 0 0 ⟨#[]⟩ none 0 0 E 0 yn yE whN whE kA kn kc none 0 0) rfl rfl HT.out Try.sizeMail mailC_one ?_)
 exact HQ.out _ _ ff HM.out HK.out
theorem mt16 (h:Mt W w b4 b5 b6 b7 m (mailC m.kind m.term m.index m.prev m.commit m.good eA en ec m.data hA hn hc m.epoch m.site m.atN m.atE m.whN m.whE oA on oc pA pn pc) sN sE jA jn jc holes ans) (h11:Blk w b11 28 #[.slice A n c]) (ho:OpsIs w Sx A n c os) (hz:n<=4294967296) (h12:Blk w b12 30 #[y0,y1,y2,y3,y4,y5,y6,y7,y8,y9,y10,y11,y12,y13,y14,y15,y16]) (hy:MailIs w Sy #[y0,y1,y2,y3,y4,y5,y6,y7,y8,y9,y10,y11,y12,y13,y14,y15,y16] y) (hyk:y.kind=10) (hyo:y.Ok) (hQ:∀ a' w',Fr 128 a' [(4,b4),(5,b5),(6,b6),(7,b7),(11,b11),(12,b12),(109,.bool (hasB os sN sE&&y.right10))]->Below w w w'->Q .normal a' w') :
 (part [1,1,1,1,1,1,0,1,0,1,1,0,1,1,1,0,0] (codeOf meetF)).wp prog Q a w:=by
 obtain⟨c0,c1⟩:=h.k5.cs 0 2
 have e0:=h11.c1 0
 have hba:Below w w (w.alloc (.cells #[sN,sE] 26)):=(Below.refl _ _).alloc (Nat.le_refl _) _
 have hhas:=has_any os (w.alloc (.cells #[sN,sE] 26)) (c1:=1) (ho.below hba) hz (Blk.new w 26 #[sN,sE])
 obtain⟨r1,hr1⟩:∃ r,r=hasB os sN sE:=⟨_,rfl⟩
 obtain⟨r2,hr2⟩:∃ r,r=y.right10:=⟨_,rfl⟩
 rw [<-hr1] at hhas
 rw [<-hr1,<-hr2] at hQ
 obtain⟨HHAS,HBA,HQ,H12⟩:=J4 hhas hba hQ h12
 have HCK:=J (show ∀ w',Below w w w'->Calls prog 27 #[.agg #[y0,y1,y2,y3,y4,y5,y6,y7,y8,y9,y10,y11,y12,y13,y14,y15,y16]] w' fun e w2=>e=.returned (.int .i64 (if r2 then 0 else 3))/\Below w'.heap.size w' w2 from fun w' hb=>by rw [hr2];exact check10_any _ y w' hyk (hy.below hb) hyo)
 clear hQ h h11 ho hz h12 hy hyk hyo hhas hba hr1 hr2
 refine gg hfr fun t=>?_
 go_wp2_with fail
 refine HHAS.out.mono ?_
 rintro e w2 ⟨rfl,hb⟩
 have hb2:=HBA.out.trans (hb.mono HBA.out.size)
 have hr:=H12.out.below hb2 H12.out.lt
 obtain⟨HR,HB2⟩:=J2 hr hb2
 clear hb hb2 hr
 cases r1 with
 | false=>
  exact Y119
 | true=>
  obtain⟨k0,k1,k2,k3,k4,k5,k6,k7,k8,k9,k10,k11,k12,k13,k14,k15,k16⟩:=HR.out.cs 0 17
  go_wp2_with fail
  refine (HCK.out w2 HB2.out).mono ?_
  rintro e w3 ⟨rfl,hb⟩
  clear k0 k1 k2 k3 k4 k5 k6 k7 k8 k9 k10 k11 k12 k13 k14 k15 k16
  have HB3:=J (HB2.out.trans (hb.mono HB2.out.size))
  clear hb
  cases r2 with
  | false=>
   go_wp2_with fail
   exact HQ.out _ _ ff HB3.out
  | true=>
   go_wp2_with fail
   exact HQ.out _ _ ff HB3.out
end
theorem mt9 (hfr:Fr 128 a [(4,b4),(5,b5),(6,b6),(7,b7),(11,b11)]) (h:Mt W w b4 b5 b6 b7 m (mailC m.kind m.term m.index m.prev m.commit m.good eA en ec m.data hA hn hc m.epoch m.site m.atN m.atE m.whN m.whE oA on oc pA pn pc) sN sE jA jn jc holes ans) (h11:Blk w b11 28 #[.slice A n c]) (ho:OpsIs w Sx A n c os) (hz:n<=4294967296) (hQ:∀ a' w',Fr 128 a' [(4,b4),(5,b5),(6,b6),(7,b7),(11,b11),(67,(!(hasB os m.atN m.atE)))]->Below w w w'->Q .normal a' w') :
 (part [1,1,1,1,1,1,0,1,0,0,0] (codeOf meetF)).wp prog Q a w:=by
 obtain⟨c11,c12⟩:=h.k4.cs 11 2
 have e0:=h11.c1 0
 have hba:Below w w (w.alloc (.cells #[m.atN,m.atE] 26)):=(Below.refl _ _).alloc (Nat.le_refl _) _
 have hhas:=has_any os (w.alloc (.cells #[m.atN,m.atE] 26)) (c1:=1) (ho.below hba) hz (Blk.new w 26 #[m.atN,m.atE])
 obtain⟨r1,hr1⟩:∃ r,r=hasB os m.atN m.atE:=⟨_,rfl⟩
 rw [<-hr1] at hhas hQ
 obtain⟨HHAS,HBA,HQ⟩:=J3 hhas hba hQ
 clear hQ h h11 ho hz hhas hba hr1
 refine gg hfr fun t=>?_
 go_wp2_with fail
 refine HHAS.out.mono ?_
 rintro e w2 ⟨rfl,hb⟩
 have HB2:=J (HBA.out.trans (hb.mono HBA.out.size))
 clear hb
 exact Y119
end
theorem mt12 (hpz:m.ops.length<=4294967296) (Q:Z) (a:Act) (hfr:Fr 128 a [(4,b4),(5,b5),(6,b6),(7,b7),(11,b11)]) (h:Mt W w b4 b5 b6 b7 m (mailC m.kind m.term m.index m.prev m.commit m.good eA en ec m.data hA hn hc m.epoch m.site m.atN m.atE m.whN m.whE oA on oc pA pn pc) sN sE jA jn jc holes ans) (h11:Blk w b11 28 #[.slice A n c]) (ho:OpsIs w Sx A n c os) (hz:n<=4294967296) (hQ:∀ a' w',Fr 128 a' [(4,b4),(5,b5),(6,b6),(7,b7),(11,b11),(84,.bool (m.ops.all fun o=>hasB os o.n o.epoch))]->Below w w w'->Q .normal a' w') :
 (part [1,1,1,1,1,1,0,1,0,1,0] (codeOf meetF)).wp prog Q a w:=by
 have c16:=h.k4.c1 16
 obtain⟨_,_,_,_,_,_,_,_,_,xA,xn,xc,he,_,_,_,hops⟩:=h.mail
 have he2:=congrArg (fun c=>c[16]?) he
 simp at he2
 obtain⟨rfl,rfl,rfl⟩:=he2
 have hlen:=hops.len
 have hc:=containsF_any w h11 ho hz hops (by omega)
 obtain⟨r1,hr1⟩:∃ r,r=m.ops.all fun o=>hasB os o.n o.epoch:=⟨_,rfl⟩
 rw [<-hr1] at hc hQ
 obtain⟨HC,HQ⟩:=J2 hc hQ
 clear hQ h h11 ho hz hc hr1 hops he hlen
 refine gg hfr fun t=>?_
 go_wp2_with fail
 refine HC.out.mono ?_
 rintro e w2 ⟨rfl,hb⟩
 have HB2:=J hb
 clear hb
 cases r1 with
 | true=>
  exact Y119
 | false=>
  exact Y119
theorem mt4 (Q:Z) (a:Act) (hfr:Fr 128 a [(0,g),(4,b4),(5,b5),(6,b6),(7,b7)]) (hg:Blk w g 98 cs) (h5:cs[5]? = some (.slice A n c)) (h7:cs[7]? = some (.int .i64 fence)) (ho:OpsIs w Sx A n c os) (hz:n<=4294967296) (hok:∀ o∈os,o.Ok) (hQ:∀ a' w' (b11:Nat) A' c',Fr 128 a' [(4,b4),(5,b5),(6,b6),(7,b7),(10,fence),(11,b11)]->Blk w' b11 28 #[.slice A' n c']->OpsIs w' (From w.heap.size) A' n c' os->w.heap.size<=b11->Below w w w'->Q .normal a' w') :
 (part [1,1,1,0] (codeOf meetF)).wp prog Q a w:=by
 have HF:=J (fence_any w hg h7)
 have HO:=J (opsLed_any w hg h5 ho hz hok)
 have HQ:=J hQ
 clear hQ hg h5 h7 ho hok
 refine gg hfr fun t=>?_
 go_wp2_with fail
 refine HF.out.mono ?_
 rintro e w1 ⟨rfl,rfl⟩
 go_wp2_with fail
 refine HO.out.mono ?_
 rintro e w2 ⟨A',c',rfl,hi,hb⟩
 have hb2:=hb.alloc hb.size (.cells #[.slice A' n c'] 28)
 have hi2:OpsIs (w2.alloc (.cells #[.slice A' n c'] 28)) (From w1.heap.size) A' n c' os:=hi.below ((Below.refl _ _).alloc (Nat.le_refl _) _)
 obtain⟨HB,HI,HS⟩:=J3 hb2 hi2 hb.size
 have HN:=J (Blk.new w2 28 #[.slice A' n c'])
 clear hb hb2 hi hi2
 go_wp2_with fail
 exact HQ.out _ _ _ _ _ ff HN.out HI.out HS.out HB.out
end
end
end Go.Proofs.Ytaipgdhdfpemcaa
