/- THE WALKS OF THE LANE, part 28. -/
import Derived.Test.YtaipgdhdfpemcaaG20
import Derived.Test.YtaipgdhdfpemcaaG24
import Derived.Test.YtaipgdhdfpemcaaG27
namespace Go.Proofs.Ytaipgdhdfpemcaa
set_option linter.all false
open Go.RowKit Go.Proofs.Try
set_option maxRecDepth 100000
set_option maxHeartbeats 4000000



section
variable {n epoch kind site client seq:Int} {name:ByteArray} {size:Int} {A:O} {hn hc:Nat}
end

theorem all_drop {f:OpC->Bool} {l:List OpC} {k:Nat} {x:OpC} (h:l[k]? = some x):(l.drop k).all f=(f x&&(l.drop (k+1)).all f):=by
 have hk:k<l.length:=by
  rcases Nat.lt_or_ge k l.length with h1|h1
  ·exact h1
  ·rw [List.getElem?_eq_none h1] at h;cases h
 rw [List.drop_eq_getElem_cons hk]
 rw [List.getElem?_eq_getElem hk] at h
 injection h with h
 rw [h]
 rfl
section
variable {kind term index prev commit:Int} {good:Bool} {eA:O} {en ec:Nat} {data:ByteArray} {hA:O} {hn hc:Nat} {epoch site atN atE whN whE:Int} {oA:O} {on oc:Nat} {pA:O} {pn pc:Nat} {ops:List OpC} {S:Nat->Prop}
end
section
variable {cs:List OpC} {M N cap n:Nat} {S:Nat->Prop} {A:O} {w:World}
theorem slice_of (A:O) (n cap N M:Nat) (h1:N<=M) (h2:M<=n) (h3:n<=cap) (h4:cap<=maxLen) (w:World):(Instr.slice 28 (.slice A n cap) (some (.int .i64 (N:Nat))) (some (.int .i64 (M:Nat))) none).run prog w=.ok (.slice (if cap=N then A else A.map (·.add (N*9))) (M-N) (cap-N)) w:=by
 have b1:(0:Int)<=(N:Int):=by omega
 have b2:(N:Int)<=(M:Int):=by omega
 have b3:(M:Int)<=(cap:Int):=by omega
 go_simp
theorem slice_lo (A:O) (n cap N:Nat) (h2:N<=n) (h3:n<=cap) (h4:cap<=maxLen) (w:World):(Instr.slice 28 (.slice A n cap) none (some (.int .i64 (N:Nat))) none).run prog w=.ok (.slice A N cap) w:=by
 have b1:(0:Int)<=(N:Int):=by omega
 have b3:(N:Int)<=(cap:Int):=by omega
 have e0:∀ a:Addr,a.add 0=a:=fun a=>by simp [Addr.add]
 cases A with
 | none=>go_simp;try simp
 | some a=>go_simp;try simp [e0]
theorem OpsIs.head (h:OpsIs w S A n cap cs) (hN:N<=n):OpsIs w S A N cap (cs.take N):=by
 obtain⟨os,h1,h2,h3,h4⟩:=h
 have hl:=h1.1
 rw [opsV_len] at hl
 refine⟨os.take N,?_,h2.take N,by omega,h4⟩
 rw [<-opsV_take os N (by omega)]
 refine⟨by rw [List.length_take,h1.1];omega,fun hn=>?_⟩
 obtain⟨ad,e,x1,x2,x3⟩:=h1.2 (by omega)
 refine⟨ad,e,x1,x2,fun j u hu=>x3 j u ?_⟩
 exact Y87
theorem OpsIs.cut (h:OpsIs w S A n cap cs) (h1:N<=M) (h2:M<=n):OpsIs w S (if cap=N then A else A.map (·.add (N*9))) (M-N) (cap-N) ((cs.drop N).take (M-N)):=by
 have h0:=h.head h2
 obtain⟨os,k1,k2,k3,k4⟩:=h0
 have hl:=k1.1
 rw [opsV_len] at hl
 have e:(cs.drop N).take (M-N)=(cs.take M).drop N:=by rw [List.drop_take]
 rw [e]
 refine⟨os.drop N,?_,k2.drop N,by omega,by omega⟩
 rw [<-opsV_drop os N (by omega)]
 refine⟨by rw [List.length_drop,k1.1,Nat.sub_mul],fun hn=>?_⟩
 obtain⟨ad,rfl,x1,x2,x3⟩:=k1.2 (by omega)
 rw [if_neg (by omega)]
 refine⟨ad.add (N*9),rfl,by rw [block_of_add];exact x1,by rw [block_of_add];exact x2,fun j u hu=>?_⟩
 rw [add_of_add]
 exact x3 _ u (by rw [<-hu,List.getElem?_drop])
end
def lastC (cs:List OpC):Int×Int:=match cs.getLast? with
 | none=>(0,0)
 | some o=>(o.n,o.epoch)
section
variable {S:Nat->Prop}
theorem lastL_any (A:O) (n c:Nat) (cs:List OpC) (w:World) (h:OpsIs w S A n c cs) (hn:n<=4294967296) :
 Calls prog 60 #[.agg #[.int .i64 0,.int .i64 0],.slice A n c] w fun x w'=>x=.returned (.agg #[.int .i64 (lastC cs).1,.int .i64 (lastC cs).2])/\Below w w w':=by
 obtain⟨os,h1,h2,h3,h4⟩:=h
 have hl:=h2.len
 have e:lastC cs=lastOf 0 0 os:=by
  unfold lastC lastOf
  rw [List.getLast?_eq_getElem?,List.getLast?_eq_getElem?]
  cases ho:os[os.length-1]? with
  | none=>
   exact Y63
  | some o=>
   exact Y141
 rw [e]
 exact last_any 0 0 A n c os w h1.reads hn
theorem copied_none (c:Nat) (w:World):Calls prog 62 #[.slice none 0 c] w fun x w'=>x=.returned (.slice none 0 0)/\w'=w:=by
 have hc:∀ w:World,Calls prog 98 #[.slice none 0 c] w fun x w'=>x=.returned (.slice none 0 0)/\w'=w:=by
  exact Y69
 have HC:=J hc
 clear hc
 go_enter func62,ntmps62
 go_wp2_with fail
 refine (HC.out w).mono ?_
 exact Y34
theorem copiedL_any (A:O) (n c:Nat) (cs:List OpC) (w:World) (h:OpsIs w S A n c cs) (hn:n<=4294967296) (hok:∀ o∈cs,o.Ok) :
 Calls prog 62 #[.slice A n c] w fun x w'=>∃ A' c',x=.returned (.slice A' n c')/\OpsIs w' (From w.heap.size) A' n c' cs/\Below w w w':=by
 rcases A with _|ad
 ·have hl:=h.len
  have h0:n=0:=by
   exact Y110
  subst h0
  have e:cs=[]:=List.eq_nil_of_length_eq_zero hl
  subst e
  refine (copied_none c w).mono ?_
  exact Y130
 ·exact copied_some ad n c cs w h hn hok
end
structure Ok4 (w0 W:World) (S:Nat->Prop) (lb:Nat) (l:LaneC) (A:O) (n cap:Nat) (os:List OpC):Prop where
 lane:LaneIs W S lb l
 ops:OpsIs W S A n cap os
 low:Below w0 w0 W
theorem Ok4.below {w0 W W':World} {S:Nat->Prop} {lb:Nat} {l:LaneC} {A:O} {n cap:Nat} {os:List OpC} (h:Ok4 w0 W S lb l A n cap os) (hb:Below W W W'):Ok4 w0 W' S lb l A n cap os:=
 ⟨h.lane.below hb,h.ops.below hb,h.low.trans (hb.mono h.low.size)⟩
def MBlk (w:World) (b:Nat):Prop:=∃ cs,Blk w b 30 cs/\cs.size=17
section
variable {l:LaneC} {os:List OpC} {M N b cap lb n rb:Nat} {S:Nat->Prop} {A:O} {W W' w w' w0:World}
theorem MBlk.below (h:MBlk w b) (hb:Below w w w'):MBlk w' b:=by
 obtain⟨cs,h1,h2⟩:=h
 exact⟨cs,h1.below hb h1.lt,h2⟩
theorem fin_below (h:∃ A' c',Blk W rb 30 (mailC 9 0 0 0 0 false none 0 0 ⟨#[]⟩ none 0 0 l.epoch l.site (lastC (os.take N)).1 (lastC (os.take N)).2 0 0 none 0 0 A' (M-N) c')/\OpsIs W (From (w0.heap.size+1)) A' (M-N) c' ((os.drop N).take (M-N))) (hb:Below W W W'):∃ A' c',Blk W' rb 30 (mailC 9 0 0 0 0 false none 0 0 ⟨#[]⟩ none 0 0 l.epoch l.site (lastC (os.take N)).1 (lastC (os.take N)).2 0 0 none 0 0 A' (M-N) c')/\OpsIs W' (From (w0.heap.size+1)) A' (M-N) c' ((os.drop N).take (M-N)):=by
 obtain⟨A',c',h1,h2⟩:=h
 exact⟨A',c',h1.below hb h1.lt,h2.below hb⟩
theorem Ok4.setR (h:Ok4 w0 W (fun b=>b<w0) lb l A n cap os) (hr:rb=w0.heap.size) (vs:List Value) (hl:lb<w0:=by assumption):Ok4 w0 (W.setCells rb 0 vs) (fun b=>b<w0) lb l A n cap os:=by
 have hsv:=save_setCells W rb 0 vs
 have hsz:=size_setCells W rb 0 vs
 have hk:Kept (fun b=>b<w0) W (W.setCells rb 0 vs):=⟨by rw [hsz];exact Nat.le_refl _,fun b h1 h2=>hsv b h2 (by have:b<w0:=h1;omega)⟩
 exact⟨h.lane.kept hk (hsv lb h.lane.lt (by omega)),h.ops.kept hk,below_setCells (by omega) h.low _ _⟩
theorem eta39LaOff (t:Array Value) (h:t.size=39):t=#[at_ t 0,at_ t 1,at_ t 2,at_ t 3,at_ t 4,at_ t 5,at_ t 6,at_ t 7,at_ t 8,at_ t 9,at_ t 10,at_ t 11,at_ t 12,at_ t 13,at_ t 14,at_ t 15,at_ t 16,at_ t 17,at_ t 18,at_ t 19,at_ t 20,at_ t 21,at_ t 22,at_ t 23,at_ t 24,at_ t 25,at_ t 26,at_ t 27,at_ t 28,at_ t 29,at_ t 30,at_ t 31,at_ t 32,at_ t 33,at_ t 34,at_ t 35,at_ t 36,at_ t 37,at_ t 38]:=(eta_ t h).trans kr
theorem off3 (Q:Z) (a:Act) (w:World) (lb rb:Nat) (l:LaneC) (hfr:Fr 39 a [(0,lb),(1,.slice A n cap),(4,rb)]) (c7:w.cell? ⟨lb,7,none⟩=some (.int .i64 l.next)) (hm:(if (n:Int)<l.next then (n:Int) else l.next)=(N:Int)) (hQ:∀ a',Fr 39 a' [(0,lb),(1,.slice A n cap),(4,rb),(5,.int .i64 (N:Nat))]->Q .normal a' w):(part [1,1,0] (codeOf offerF)).wp prog Q a w:=by
 obtain⟨HQ,HM⟩:=J2 hQ hm
 clear hQ hm
 refine gg hfr fun t=>?_
 by_cases hc:(n:Int)<l.next
 ·have e:(n:Int)=(N:Int):=by have:=HM.out;rw [if_pos hc] at this;exact this
  exact Y113
 ·have e:l.next=(N:Int):=by have:=HM.out;rw [if_neg hc] at this;exact this
  exact Y113
theorem off4 (a:Act) (w0 w:World) (lb rb:Nat) (l:LaneC) (os:List OpC) (N M:Nat) (hfr:Fr 39 a [(0,lb),(1,.slice A n cap),(4,rb),(5,.int .i64 (N:Nat))]) (hrb:rb=w0.heap.size) (hlt:lb<w0) (hn:n<=4294967296) (hb:N<=n/\N<=M/\n<=cap/\cap<=maxLen) (hm:M<=n) (hme:M=min n (N+8)) (hok:∀ o∈(os.drop N).take (M-N),o.Ok) (h4:Ok4 w0 w (fun b=>b<w0) lb l A n cap os) (hsz:w0.heap.size+1<=w) (hmb:MBlk w rb) :
 (part [1,1,1] (codeOf offerF)).wp prog (bodyPost prog offerF fun x w'=>∃ A' c',x=.returned (.agg (mailC 9 0 0 0 0 false none 0 0 ⟨#[]⟩ none 0 0 l.epoch l.site (lastC (os.take N)).1 (lastC (os.take N)).2 0 0 none 0 0 A' (M-N) c'))/\OpsIs w' (From w0.heap.size) A' (M-N) c' ((os.drop N).take (M-N))/\Below w0 w0 w') a w:=by
 obtain⟨HRB,HN,HB,HM,HME,HOK,HOK4,HSZ,HMB⟩:=J9 hrb hn hb hm hme hok h4 hsz hmb
 clear hrb hn hb hm hme hok h4 hsz hmb
 obtain⟨t,df⟩:=a
 obtain⟨hd,hs,h0,h1,h4,h5,-⟩:=hfr
 simp only at hd hs h0 h1 h4 h5
 subst hd
 rw [eta39LaOff t hs,h0,h1,h4,h5]
 clear hs h0 h1 h4 h5
 refine Wt ?_
 conv=>arg 2;whnf
 refine wp_region_all kr (fun i v W=>match i with|0=>v=lb|1=>v=lb|2=>v=.pointer (some ⟨lb,5,none⟩)|3=>v=l.epoch|4=>v=lb|5=>v=lb|6=>v=.pointer (some ⟨lb,6,none⟩)|7=>v=l.site|8=>v=.agg #[.int .i64 0,.int .i64 0]|9=>v=.slice A n cap|10=>v=.int .i64 (N:Nat)|11=>v=.slice A N cap|12=>v=.agg #[.int .i64 (lastC (os.take N)).1,.int .i64 (lastC (os.take N)).2]|13=>v=.slice A n cap|14=>v=.int .i64 (N:Nat)|15=>v=.slice A n cap|16=>v=.int .i64 (n:Nat)|17=>v=.int .i64 (N:Nat)|18=>v=.int .i64 ((N:Nat)+8:Int)|19=>v=.int .i64 (M:Nat)|20=>v=.slice (if cap=N then A else A.map (·.add (N*9))) (M-N) (cap-N)|21=>∃ A' c',v=.slice A' (M-N) c'/\OpsIs W (From (w0.heap.size+1)) A' (M-N) c' ((os.drop N).take (M-N))|22=>∃ A' c',v=.agg (mailC 9 0 0 0 0 false none 0 0 ⟨#[]⟩ none 0 0 l.epoch l.site (lastC (os.take N)).1 (lastC (os.take N)).2 0 0 none 0 0 A' (M-N) c')/\OpsIs W (From (w0.heap.size+1)) A' (M-N) c' ((os.drop N).take (M-N))|23=>∃ A' c',Blk W rb 30 (mailC 9 0 0 0 0 false none 0 0 ⟨#[]⟩ none 0 0 l.epoch l.site (lastC (os.take N)).1 (lastC (os.take N)).2 0 0 none 0 0 A' (M-N) c')/\OpsIs W (From (w0.heap.size+1)) A' (M-N) c' ((os.drop N).take (M-N))|_=>True) (fun W=>Ok4 w0 W (fun b=>b<w0) lb l A n cap os/\w0.heap.size+1<=W/\MBlk W rb) (fun W W'=>(Save rb W W'/\W.heap.size<=W')/\((∃ A' c',Blk W rb 30 (mailC 9 0 0 0 0 false none 0 0 ⟨#[]⟩ none 0 0 l.epoch l.site (lastC (os.take N)).1 (lastC (os.take N)).2 0 0 none 0 0 A' (M-N) c')/\OpsIs W (From (w0.heap.size+1)) A' (M-N) c' ((os.drop N).take (M-N)))->∃ A' c',Blk W' rb 30 (mailC 9 0 0 0 0 false none 0 0 ⟨#[]⟩ none 0 0 l.epoch l.site (lastC (os.take N)).1 (lastC (os.take N)).2 0 0 none 0 0 A' (M-N) c')/\OpsIs W' (From (w0.heap.size+1)) A' (M-N) c' ((os.drop N).take (M-N)))) kr ?hG ?hmono ?hstep ?hend
 case hG=>exact⟨HOK4.out.below ⟨rfl,rfl,rfl,Nat.le_refl _,fun _ _=>rfl⟩,HSZ.out,HMB.out⟩
 case hmono=>
  intro i v W W' hx hv
  match i with
  | 21=>
   exact Y91
  | 22=>
   exact Y91
  | 23=>
   exact hx.2 hv
  | 0|1|2|3|4|5|6|7|8|9|10|11|12|13|14|15|16|17|18|19|20=>exact hv
  | i+24=>exact hv
 case hstep=>
  intro i o F U W ho hGW hat hoff hp
  have hrefl:=fun W:World=>(⟨⟨fun _ _ _=>rfl,Nat.le_refl _⟩,fun h=>h⟩:(Save rb W W/\W.heap.size<=W)/\((∃ A' c',Blk W rb 30 (mailC 9 0 0 0 0 false none 0 0 ⟨#[]⟩ none 0 0 l.epoch l.site (lastC (os.take N)).1 (lastC (os.take N)).2 0 0 none 0 0 A' (M-N) c')/\OpsIs W (From (w0.heap.size+1)) A' (M-N) c' ((os.drop N).take (M-N)))->∃ A' c',Blk W rb 30 (mailC 9 0 0 0 0 false none 0 0 ⟨#[]⟩ none 0 0 l.epoch l.site (lastC (os.take N)).1 (lastC (os.take N)).2 0 0 none 0 0 A' (M-N) c')/\OpsIs W (From (w0.heap.size+1)) A' (M-N) c' ((os.drop N).take (M-N))))
  match i with
   | 0=>cases ho;refine on_ (wanted_none rfl) ?_;have e0:=oo 0 lb;exact wp_move' (.tmp 0) rfl ⟨_,rfl,e0,hGW,hrefl W⟩
   | 1=>
    cases ho;refine on_ (wanted_none rfl) ?_
    have e16:F.eval (.tmp 16)=.pointer (some ⟨lb,0,none⟩):=(hat 0 16 kd rfl).trans (hp ⟨0,.data⟩ (by simp) rfl:U 0=.pointer (some ⟨lb,0,none⟩))
    have t16:=act_tmp e16;clear hat hoff hp
    exact Y7
   | 2=>
    cases ho;refine on_ (wanted_none rfl) ?_
    have e17:F.eval (.tmp 17)=.pointer (some ⟨lb,0,none⟩):=(hat 1 17 kd rfl).trans (hp ⟨1,.data⟩ (by simp) rfl:U 1=.pointer (some ⟨lb,0,none⟩))
    have t17:=act_tmp e17;clear hat hoff hp
    exact Y38
   | 3=>
    cases ho;refine on_ (wanted_none rfl) ?_
    have e18:F.eval (.tmp 18)=.pointer (some ⟨lb,5,none⟩):=(hat 2 18 kd rfl).trans (hp ⟨2,.data⟩ (by simp) rfl:U 2=.pointer (some ⟨lb,5,none⟩))
    have t18:=act_tmp e18;clear hat hoff hp;obtain⟨oA,on,oc,kl,ki⟩:=hGW.1.lane;have d:=kl.c1 5
    exact wp_value' (.int .i64 l.epoch) W (by unfold execOp;go_simp) ⟨_,rfl,rfl,hGW,hrefl W⟩
   | 4=>cases ho;refine on_ (wanted_none rfl) ?_;have e0:=oo 0 lb;exact wp_move' (.tmp 0) rfl ⟨_,rfl,e0,hGW,hrefl W⟩
   | 5=>
    cases ho;refine on_ (wanted_none rfl) ?_
    have e20:F.eval (.tmp 20)=.pointer (some ⟨lb,0,none⟩):=(hat 4 20 kd rfl).trans (hp ⟨4,.data⟩ (by simp) rfl:U 4=.pointer (some ⟨lb,0,none⟩))
    have t20:=act_tmp e20;clear hat hoff hp
    exact Y7
   | 6=>
    cases ho;refine on_ (wanted_none rfl) ?_
    have e21:F.eval (.tmp 21)=.pointer (some ⟨lb,0,none⟩):=(hat 5 21 kd rfl).trans (hp ⟨5,.data⟩ (by simp) rfl:U 5=.pointer (some ⟨lb,0,none⟩))
    have t21:=act_tmp e21;clear hat hoff hp
    exact Y80
   | 7=>
    cases ho;refine on_ (wanted_none rfl) ?_
    have e22:F.eval (.tmp 22)=.pointer (some ⟨lb,6,none⟩):=(hat 6 22 kd rfl).trans (hp ⟨6,.data⟩ (by simp) rfl:U 6=.pointer (some ⟨lb,6,none⟩))
    have t22:=act_tmp e22;clear hat hoff hp;obtain⟨oA,on,oc,kl,ki⟩:=hGW.1.lane;have d:=kl.c1 6
    exact wp_value' (.int .i64 l.site) W (by unfold execOp;go_simp) ⟨_,rfl,rfl,hGW,hrefl W⟩
   | 8=>
    cases ho;refine on_ (wanted_none rfl) ?_;clear hat hoff hp
    exact Y57
   | 9=>cases ho;refine on_ (wanted_none rfl) ?_;have e1:=oo 1 (.slice A n cap);exact wp_move' (.tmp 1) rfl ⟨_,rfl,e1,hGW,hrefl W⟩
   | 10=>cases ho;refine on_ (wanted_none rfl) ?_;have e5:=oo 5 (.int .i64 (N:Nat));exact wp_move' (.tmp 5) rfl ⟨_,rfl,e5,hGW,hrefl W⟩
   | 11=>
    cases ho;refine on_ (wanted_none rfl) ?_
    have e25:F.eval (.tmp 25)=.slice A n cap:=(hat 9 25 kd rfl).trans (hp ⟨9,.data⟩ (by simp) rfl:U 9=.slice A n cap)
    have t25:=act_tmp e25
    have e26:F.eval (.tmp 26)=.int .i64 (N:Nat):=(hat 10 26 kd rfl).trans (hp ⟨10,.data⟩ (by simp) rfl:U 10=.int .i64 (N:Nat))
    have t26:=act_tmp e26;clear hat hoff hp
    exact wp_value' (.slice A N cap) W (by unfold execOp;have q:=slice_lo A n cap N HB.out.1 HB.out.2.2.1 HB.out.2.2.2 W;go_simp) ⟨_,rfl,rfl,hGW,hrefl W⟩
   | 12=>
    cases ho;refine on_ (wanted_none rfl) ?_
    have e24:F.eval (.tmp 24)=.agg #[.int .i64 0,.int .i64 0]:=(hat 8 24 kd rfl).trans (hp ⟨8,.data⟩ (by simp) rfl:U 8=.agg #[.int .i64 0,.int .i64 0])
    have t24:=act_tmp e24
    have e27:F.eval (.tmp 27)=.slice A N cap:=(hat 11 27 kd rfl).trans (hp ⟨11,.data⟩ (by simp) rfl:U 11=.slice A N cap)
    have t27:=act_tmp e27;clear hat hoff hp
    refine wp_enter' 60 #[.agg #[.int .i64 0,.int .i64 0],.slice A N cap] (by unfold execOp;go_simp) ?_
    refine (lastL_any A N cap (os.take N) W (hGW.1.ops.head HB.out.1) (by have:=HN.out;have:=HB.out.1;omega)).mono ?_
    rintro e W' ⟨rfl,hb⟩
    exact⟨_,rfl,_,rfl,rfl,⟨hGW.1.below hb,Nat.le_trans hGW.2.1 hb.size,hGW.2.2.below hb⟩,⟨Save.of hb,hb.size⟩,fun h=>fin_below h hb⟩
   | 13=>cases ho;refine on_ (wanted_none rfl) ?_;have e1:=oo 1 (.slice A n cap);exact wp_move' (.tmp 1) rfl ⟨_,rfl,e1,hGW,hrefl W⟩
   | 14=>cases ho;refine on_ (wanted_none rfl) ?_;have e5:=oo 5 (.int .i64 (N:Nat));exact wp_move' (.tmp 5) rfl ⟨_,rfl,e5,hGW,hrefl W⟩
   | 15=>cases ho;refine on_ (wanted_none rfl) ?_;have e1:=oo 1 (.slice A n cap);exact wp_move' (.tmp 1) rfl ⟨_,rfl,e1,hGW,hrefl W⟩
   | 16=>
    cases ho;refine on_ (wanted_none rfl) ?_
    have e31:F.eval (.tmp 31)=.slice A n cap:=(hat 15 31 kd rfl).trans (hp ⟨15,.data⟩ (by simp) rfl:U 15=.slice A n cap)
    have t31:=act_tmp e31;clear hat hoff hp
    exact wp_value' (.int .i64 (n:Nat)) W (by unfold execOp;go_simp) ⟨_,rfl,rfl,hGW,hrefl W⟩
   | 17=>cases ho;refine on_ (wanted_none rfl) ?_;have e5:=oo 5 (.int .i64 (N:Nat));exact wp_move' (.tmp 5) rfl ⟨_,rfl,e5,hGW,hrefl W⟩
   | 18=>
    cases ho;refine on_ (wanted_none rfl) ?_
    have e33:F.eval (.tmp 33)=.int .i64 (N:Nat):=(hat 17 33 kd rfl).trans (hp ⟨17,.data⟩ (by simp) rfl:U 17=.int .i64 (N:Nat))
    have t33:=act_tmp e33;clear hat hoff hp
    exact wp_value' (.int .i64 ((N:Nat)+8:Int)) W (by unfold execOp;have hb:=HB.out;have hb2:=HN.out;go_simp;all_goals first|omega|exact IntWalk.i64_in _ (by omega)) ⟨_,rfl,rfl,hGW,hrefl W⟩
   | 19=>
    cases ho;refine on_ (wanted_none rfl) ?_
    have e32:F.eval (.tmp 32)=.int .i64 (n:Nat):=(hat 16 32 kd rfl).trans (hp ⟨16,.data⟩ (by simp) rfl:U 16=.int .i64 (n:Nat))
    have t32:=act_tmp e32
    have e34:F.eval (.tmp 34)=.int .i64 ((N:Nat)+8:Int):=(hat 18 34 kd rfl).trans (hp ⟨18,.data⟩ (by simp) rfl:U 18=.int .i64 ((N:Nat)+8:Int))
    have t34:=act_tmp e34;clear hat hoff hp
    have q:(if ((N:Nat)+8:Int)<(n:Nat) then ((N:Nat)+8:Int) else (n:Nat))=((M:Nat):Int):=by have:=HME.out;split<;>omega
    exact wp_value' (.int .i64 (if ((N:Nat)+8:Int)<(n:Nat) then ((N:Nat)+8:Int) else (n:Nat))) W (by unfold execOp;go_simp) ⟨_,rfl,congrArg (Value.int .i64) q,hGW,hrefl W⟩
   | 20=>
    cases ho;refine on_ (wanted_none rfl) ?_
    have e29:F.eval (.tmp 29)=.slice A n cap:=(hat 13 29 kd rfl).trans (hp ⟨13,.data⟩ (by simp) rfl:U 13=.slice A n cap)
    have t29:=act_tmp e29
    have e30:F.eval (.tmp 30)=.int .i64 (N:Nat):=(hat 14 30 kd rfl).trans (hp ⟨14,.data⟩ (by simp) rfl:U 14=.int .i64 (N:Nat))
    have t30:=act_tmp e30
    have e35:F.eval (.tmp 35)=.int .i64 (M:Nat):=(hat 19 35 kd rfl).trans (hp ⟨19,.data⟩ (by simp) rfl:U 19=.int .i64 (M:Nat))
    have t35:=act_tmp e35;clear hat hoff hp
    exact wp_value' (.slice (if cap=N then A else A.map (·.add (N*9))) (M-N) (cap-N)) W (by unfold execOp;have q:=slice_of A n cap N M HB.out.2.1 HM.out HB.out.2.2.1 HB.out.2.2.2 W;go_simp) ⟨_,rfl,rfl,hGW,hrefl W⟩
   | 21=>
    cases ho;refine on_ (wanted_none rfl) ?_
    have e36:F.eval (.tmp 36)=.slice (if cap=N then A else A.map (·.add (N*9))) (M-N) (cap-N):=(hat 20 36 kd rfl).trans (hp ⟨20,.data⟩ (by simp) rfl:U 20=.slice (if cap=N then A else A.map (·.add (N*9))) (M-N) (cap-N))
    have t36:=act_tmp e36;clear hat hoff hp
    refine wp_enter' 62 #[.slice (if cap=N then A else A.map (·.add (N*9))) (M-N) (cap-N)] (by unfold execOp;go_simp) ?_
    refine (copiedL_any _ (M-N) (cap-N) _ W (hGW.1.ops.cut HB.out.2.1 HM.out) (by have:=HN.out;have:=HM.out;omega) HOK.out).mono ?_
    rintro e W' ⟨A',c',rfl,hi,hb⟩
    have hs:=hGW.2.1
    exact⟨_,rfl,_,rfl,⟨A',c',rfl,hi.mono fun b _ h=>(show w0.heap.size+1<=b from Nat.le_trans hs h)⟩,⟨hGW.1.below hb,Nat.le_trans hs hb.size,hGW.2.2.below hb⟩,⟨Save.of hb,hb.size⟩,fun h=>fin_below h hb⟩
   | 22=>
    cases ho;refine on_ (wanted_none rfl) ?_
    have e19:F.eval (.tmp 19)=.int .i64 l.epoch:=(hat 3 19 kd rfl).trans (hp ⟨3,.data⟩ (by simp) rfl:U 3=.int .i64 l.epoch)
    have t19:=act_tmp e19
    have e23:F.eval (.tmp 23)=.int .i64 l.site:=(hat 7 23 kd rfl).trans (hp ⟨7,.data⟩ (by simp) rfl:U 7=.int .i64 l.site)
    have t23:=act_tmp e23
    have e28:F.eval (.tmp 28)=.agg #[.int .i64 (lastC (os.take N)).1,.int .i64 (lastC (os.take N)).2]:=(hat 12 28 kd rfl).trans (hp ⟨12,.data⟩ (by simp) rfl:U 12=.agg #[.int .i64 (lastC (os.take N)).1,.int .i64 (lastC (os.take N)).2])
    have t28:=act_tmp e28;have e37:=hat 21 37 kd rfl
    have v37:=hp ⟨21,.data⟩ (by simp) rfl
    clear hat hoff hp;obtain⟨A',c',h37,hi⟩:=v37;rw [h37] at e37;have t37:=act_tmp e37
    exact wp_value' (.agg (mailC 9 0 0 0 0 false none 0 0 ⟨#[]⟩ none 0 0 l.epoch l.site (lastC (os.take N)).1 (lastC (os.take N)).2 0 0 none 0 0 A' (M-N) c')) W (by unfold execOp;go_simp) ⟨_,rfl,⟨A',c',rfl,hi⟩,hGW,hrefl W⟩
   | 23=>
    cases ho;refine on_ (wanted_none rfl) ?_;have e4:=oo 4 rb;have t4:=act_tmp e4;have e38:=hat 22 38 kd rfl
    have v38:=hp ⟨22,.data⟩ (by simp) rfl
    clear hat hoff hp;obtain⟨A',c',h38,hi⟩:=v38;rw [h38] at e38;obtain⟨cs0,hk0,hs0⟩:=hGW.2.2
    have hn:=hk0.setCells_ (mailC 9 0 0 0 0 false none 0 0 ⟨#[]⟩ none 0 0 l.epoch l.site (lastC (os.take N)).1 (lastC (os.take N)).2 0 0 none 0 0 A' (M-N) c').toList (by rw [hs0];rfl)
    have hsv:=save_setCells W rb 0 (mailC 9 0 0 0 0 false none 0 0 ⟨#[]⟩ none 0 0 l.epoch l.site (lastC (os.take N)).1 (lastC (os.take N)).2 0 0 none 0 0 A' (M-N) c').toList;have hsz:=size_setCells W rb 0 (mailC 9 0 0 0 0 false none 0 0 ⟨#[]⟩ none 0 0 l.epoch l.site (lastC (os.take N)).1 (lastC (os.take N)).2 0 0 none 0 0 A' (M-N) c').toList
    have hi':=hi.kept (w':=W.setCells rb 0 (mailC 9 0 0 0 0 false none 0 0 ⟨#[]⟩ none 0 0 l.epoch l.site (lastC (os.take N)).1 (lastC (os.take N)).2 0 0 none 0 0 A' (M-N) c').toList) ⟨by rw [hsz];exact Nat.le_refl _,fun b h1 h2=>hsv b h2 (by have:w0.heap.size+1<=b:=h1;have:=HRB.out;omega)⟩
    refine wp_store_mid 30 (.tmp 4) (.tmp 38) rfl rb 0 (mailC 9 0 0 0 0 false none 0 0 ⟨#[]⟩ none 0 0 l.epoch l.site (lastC (os.take N)).1 (lastC (os.take N)).2 0 0 none 0 0 A' (M-N) c') e4 e38 (hk0.there_ 0 _ (by rw [hs0];exact Nat.le_refl _)) Try.sizeMail mailC_one ?_
    refine⟨_,rfl,⟨A',c',hn,hi'⟩,⟨?_,by rw [hsz];exact hGW.2.1,⟨_,hn,rfl⟩⟩,⟨hsv,by rw [hsz];exact Nat.le_refl _⟩,fun _=>⟨A',c',hn,hi'⟩⟩
    exact hGW.1.setR HRB.out _
   | i+24=>exact absurd ho (by simp)
 case hend=>
  intro U W hGW hV
  obtain⟨A',c',hk,hi⟩:∃ A' c',Blk W rb 30 (mailC 9 0 0 0 0 false none 0 0 ⟨#[]⟩ none 0 0 l.epoch l.site (lastC (os.take N)).1 (lastC (os.take N)).2 0 0 none 0 0 A' (M-N) c')/\OpsIs W (From (w0.heap.size+1)) A' (M-N) c' ((os.drop N).take (M-N)):=hV 23 kd
  obtain⟨HK2,HI2,HG⟩:=J3 hk hi hGW.1.low
  clear hV hGW hk hi
  simp [putU,dstAt,Act.put]
  show (part [1,1,1,1] (codeOf offerF)).wp prog _ _ _
  conv=>arg 2;whnf
  refine wp_ret ?_
  refine bodyPost_ret (results_cell rfl rfl HK2.out.range underlying30 rfl Try.sizeMail) rfl ?_
  exact⟨A',c',rfl,HI2.out.mono fun b _ h=>(show w0.heap.size<=b from by have:w0.heap.size+1<=b:=h;omega),HG.out⟩
theorem offerL_any (lb:Nat) (l:LaneC) (os:List OpC) (w0:World) (N M:Nat) (hN:(N:Int)=min l.next n) (hM:M=min n (N+8)) (hl:LaneIs w0 S lb l) (ho:OpsIs w0 S A n cap os) (hn:n<=4294967296) (hok:∀ o∈os,o.Ok) :
 Calls prog 26 #[.pointer (some ⟨lb,0,none⟩),.slice A n cap] w0 fun x w'=>∃ A' c',x=.returned (.agg (mailC 9 0 0 0 0 false none 0 0 ⟨#[]⟩ none 0 0 l.epoch l.site (lastC (os.take N)).1 (lastC (os.take N)).2 0 0 none 0 0 A' (M-N) c'))/\OpsIs w' (From w0.heap.size) A' (M-N) c' ((os.drop N).take (M-N))/\Below w0 w0 w':=by
 have hcap:n<=cap/\cap<=maxLen:=by obtain⟨_,_,_,h,h'⟩:=ho;exact⟨h,h'⟩
 have hl0:LaneIs w0 (fun b=>b<w0) lb l:=by
  obtain⟨oA,on,oc,h1,h2⟩:=hl
  exact⟨oA,on,oc,h1,h2.mono fun b hb _=>hb⟩
 have ho0:OpsIs w0 (fun b=>b<w0) A n cap os:=ho.mono fun b hb _=>hb
 have hlt:=hl.lt
 have HN:=J hn
 have HB:=J (show N<=n/\N<=M/\n<=cap/\cap<=maxLen from ⟨by omega,by omega,hcap.1,hcap.2⟩)
 have HM:=J (show M<=n by omega)
 have HME:=J hM
 have HOK:=J (show ∀ o∈(os.drop N).take (M-N),o.Ok from fun o h=>hok o (List.mem_of_mem_drop (List.mem_of_mem_take h)))
 have hba:Below w0 w0 (w0.alloc (.cells noMail 30)):=(Below.refl _ _).alloc (Nat.le_refl _) _
 have HOK4:=J (⟨hl0.below hba,ho0.below hba,hba⟩:Ok4 w0 (w0.alloc (.cells noMail 30)) (fun b=>b<w0) lb l A n cap os)
 have HMB:=J (⟨_,Blk.new w0 30 noMail,rfl⟩:MBlk (w0.alloc (.cells noMail 30)) w0.heap.size)
 have hmin:(if (n:Int)<l.next then (n:Int) else l.next)=(N:Int):=by split<;>omega
 have c7:(w0.alloc (.cells noMail 30)).cell? ⟨lb,7,none⟩=some (.int .i64 l.next):=by
  obtain⟨oA,on,oc,h1,h2⟩:=hl0.below hba
  exact h1.cell 7
 have HMIN:=J hmin
 clear hl ho hok hN hM hcap hl0 ho0 hba hmin
 go_enter func26,ntmps26
 conv=>arg 2;arg 2;arg 2;change part [1,1] (codeOf offerF)
 go_wp2_with fail
 obtain⟨rb,hrb⟩:∃ rb,rb=w0.heap.size:=⟨_,rfl⟩
 rw [<-hrb] at HMB ⊢
 have HRB:=J hrb
 clear hrb
 refine Wt ?_
 refine off3 _ _ _ lb rb l ff c7 HMIN.out fun a1 hf1=>?_
 clear c7
 show (part [1,1,1] (codeOf offerF)).wp prog _ a1 _
 refine off4 a1 w0 _ lb rb l os N M hf1 HRB.out hlt HN.out HB.out HM.out HME.out HOK.out HOK4.out (by simp) HMB.out
end
def opZ:OpC:=⟨0,0,0,0,0,0,⟨#[]⟩,0,[]⟩
def mailZ:MailC:=⟨0,0,0,0,0,false,[],⟨#[]⟩,[],0,0,0,0,0,0,[],[]⟩
def cmdZ:CmdC:=⟨0,0,0,opZ,0,0,[],0⟩
def ansM (epoch:Int) (good:Bool) (atN atE whN whE:Int) (holes:List Int):MailC:=⟨10,0,0,0,0,good,[],⟨#[]⟩,[],epoch,0,atN,atE,whN,whE,holes,[]⟩
def endC (N E:Int) (ops:List OpC):Int×Int:=match ops.getLast? with
 | none=>(N,E)
 | some o=>(o.n,o.epoch)
def propC (m:MailC):CmdC:=⟨3,m.epoch,m.site,opZ,m.atN,m.atE,m.ops,0⟩
def meetP (os:List OpC) (fence:Int) (m:MailC) (sN sE:Int) (holes:List Int):MailC×CmdC×Int:=
 if (m.kind=9/\m.right9=true)/\¬ (m.epoch=(holderC os).1/\m.site≠(holderC os).2) then
  if m.epoch<fence then (ansM fence false 0 0 0 0 [],cmdZ,1)
  else if m.epoch=fence/\hasB os m.atN m.atE=false then (ansM m.epoch false (Seam.hintN (os.map (·.epoch)) m.atN m.atE) (Seam.ep (os.map (·.epoch)) (Seam.hintN (os.map (·.epoch)) m.atN m.atE)) 0 0 [],cmdZ,1)
  else if m.epoch=fence/\(m.ops.all fun o=>hasB os o.n o.epoch)=true then
   (if (hasB os sN sE&&(ansM m.epoch true (endC m.atN m.atE m.ops).1 (endC m.atN m.atE m.ops).2 sN sE holes).right10)=true then ansM m.epoch true (endC m.atN m.atE m.ops).1 (endC m.atN m.atE m.ops).2 sN sE holes
    else ansM m.epoch true (endC m.atN m.atE m.ops).1 (endC m.atN m.atE m.ops).2 0 0 [],cmdZ,1)
  else (mailZ,propC m,2)
 else (mailZ,cmdZ,0)
theorem eta10 (t:Array Value) (h:t.size=10):t=#[at_ t 0,at_ t 1,at_ t 2,at_ t 3,at_ t 4,at_ t 5,at_ t 6,at_ t 7,at_ t 8,at_ t 9]:=(eta_ t h).trans kr
@[reducible] noncomputable def clF:Func:=Try.f58
def ClS (w:World) (n e:Int) (r:Bool):List Value->World->Prop
 | [],W=>W=w
 | [u],W=>u=.agg #[n,e]/\Below w w W
 | [_,u],W=>(∃ g,u=.slice (some ⟨g,0,none⟩) 1 1/\Blk W g 26 #[n,e])/\Below w w W
 | [_,_,u],W=>u=.bool r/\Below w w W
 | [_,_,_,u],W=>u=.bool (!r)/\Below w w W
 | [_,_,_,_,u],W=>u=.bool (!r)/\Below w w W
 | _,_=>False
section
variable {r:Bool} {e:Int} {os:List OpC} {vs:List Value} {b11 b2 c n oc on:Nat} {Sx:Nat->Prop} {A oA:O} {o:OpC} {W w:World}
theorem ClS.below {n:Int} (h:ClS w n e r vs W):Below w w W:=by
 rcases vs with _|⟨u0,_|⟨u1,_|⟨u2,_|⟨u3,_|⟨u4,_|⟨u5,l⟩⟩⟩⟩⟩⟩
 ·exact (show W=w from h)▸Below.refl _ _
 ·exact h.2
 ·exact h.2
 ·exact h.2
 ·exact h.2
 ·exact h.2
 ·exact h.elim
theorem cl1 (Q:Z) (a:Act) (hfr:Fr 10 a [(1,b11),(2,b2)]) (hb11:Blk w b11 28 #[.slice A n c]) (hb2:Blk w b2 45 #[.int .i64 o.n,o.epoch,o.kind,o.site,o.client,o.seq,.string o.name,o.size,.slice oA on oc]) (ho:OpsIs w Sx A n c os) (hz:n<=4294967296) (hr:r=hasB os o.n o.epoch) (hQ:∀ a' W,Fr 10 a' [(3,(!r))]->Below w w W->Q .normal a' W) :
 (part [1,0] (codeOf clF)).wp prog Q a w:=by
 have hb':Blk w.drew b11 28 #[.slice A n c]:=hb11
 have hb2':Blk w.drew b2 45 #[.int .i64 o.n,o.epoch,o.kind,o.site,o.client,o.seq,.string o.name,o.size,.slice oA on oc]:=hb2
 have ho':OpsIs w.drew Sx A n c os:=ho.below ⟨rfl,rfl,rfl,Nat.le_refl _,fun _ _=>rfl⟩
 have HQ:=J (show ∀ a' W,Fr 10 a' [(3,(!r))]->Below w.drew.heap.size w.drew W->Q .normal a' W from fun a' W hf hh=>hQ a' W hf ⟨hh.os,hh.tape,hh.output,hh.size,hh.block⟩)
 clear hb11 hb2 ho hQ
 obtain⟨w0,hw0⟩:∃ w0,w0=w.drew:=⟨_,rfl⟩
 rw [<-hw0] at hb' hb2' ho' HQ
 obtain⟨HB11,HB2,HO,HZ,HR⟩:=J5 hb' hb2' ho' hz hr
 clear hb' hb2' ho' hz hr
 refine gg hfr fun t=>?_
 generalize w=w1 at hw0 ⊢
 have HW0:=J hw0
 clear hw0
 refine wp_region_chain kr [2,3,4,5,6] (fun i=>match i with|0=>.slice A n c|1=>.agg #[.int .i64 o.n,o.epoch,o.kind,o.site,o.client,o.seq,.string o.name,o.size,.slice oA on oc]|_=>undef) (ClS w0 o.n o.epoch r) (fun s i=>s==i) kr kr kr kr ?hS ?hfree ?hlink ?hend
 case hS=>exact HW0.out.symm
 case hfree=>
  intro i o F U vs W ho hni hS hlen hlim hat hoff hd
  have e1:=oo 1 b11
  have t1:=act_tmp e1
  have e2:=oo 2 b2
  have t2:=act_tmp e2
  obtain⟨qa,qb⟩:=J2 hat hd
  clear hat hoff hd
  match i with
  | 0=>
   cases ho
   have hbW:=hS.below
   have d0:=(HB11.out.below hbW HB11.out.lt).cell 0
   exact Y107
  | 1=>
   cases ho
   have hbW:=hS.below
   have d0:=(HB2.out.below hbW HB2.out.lt).cell 0
   have d1:=(HB2.out.below hbW HB2.out.lt).cell 1
   have d2:=(HB2.out.below hbW HB2.out.lt).cell 2
   have d3:=(HB2.out.below hbW HB2.out.lt).cell 3
   have d4:=(HB2.out.below hbW HB2.out.lt).cell 4
   have d5:=(HB2.out.below hbW HB2.out.lt).cell 5
   have d6:=(HB2.out.below hbW HB2.out.lt).cell 6
   have d7:=(HB2.out.below hbW HB2.out.lt).cell 7
   have d8:=(HB2.out.below hbW HB2.out.lt).cell 8
   simp at d0 d1 d2 d3 d4 d5 d6 d7 d8
   exact vl ⟨rfl,rfl⟩
  | 2|3|4|5|6=>
   exact Y81
  | i+7=>exact absurd ho (by simp)
 case hlink=>
  intro k i o F U vs W hk ho hS hvl hat hoff hd
  have:=ot 1 b11
  have:=ot 2 b2
  obtain⟨qa,qb⟩:=J2 hat hd
  clear hat hoff hd
  match k with
  | 0=>
   cases hk;cases ho;obtain rfl:=List.eq_nil_of_length_eq_zero hvl;have e5:=fev qa qb 1 5;have t5:=act_tmp e5;obtain rfl:=hS
   refine wp_enter' 59 #[.agg #[.int .i64 o.n,o.epoch,o.kind,o.site,o.client,o.seq,.string o.name,o.size,.slice oA on oc]] (by unfold execOp;go_simp) ?_
   refine (spot_any _ _ _ _ _ _ _ _ _ _).mono ?_
   rintro e W' ⟨rfl,hb⟩
   exact⟨_,rfl,_,rfl,rfl,hb⟩
  | 1=>
   cases hk;cases ho;obtain⟨u0,rfl⟩:=ln1 hvl;have e6:=cev qa qb 2 6;have t6:=act_tmp e6;obtain⟨hu,hb⟩:=hS;rw [hu] at e6;have t6:=act_tmp e6
   exact wp_value' (.slice (some ⟨W.heap.size,0,none⟩) 1 1) (W.alloc (.cells #[.int .i64 o.n,o.epoch] 26)) (by unfold execOp;go_simp) ⟨_,rfl,⟨_,rfl,Blk.new W _ _⟩,hb.alloc hb.size _⟩
  | 2=>
   cases hk;cases ho;obtain⟨u0,u1,rfl⟩:=ln2 hvl;have e4:=fev qa qb 0 4;have t4:=act_tmp e4;have e7:=cev qa qb 3 7;have t7:=act_tmp e7;obtain⟨⟨g,hu,hg⟩,hb⟩:=hS;rw [hu] at e7;have t7:=act_tmp e7
   refine wp_enter' 54 #[.slice A n c,.slice (some ⟨g,0,none⟩) 1 1] (by unfold execOp;go_simp) ?_
   refine (has_any os W (HO.out.below hb) HZ.out hg).mono ?_
   rintro e W' ⟨rfl,hb'⟩
   exact⟨_,rfl,_,rfl,by rw [HR.out],hb.trans (hb'.mono hb.size)⟩
  | 3=>
   cases hk;cases ho;obtain⟨u0,u1,u2,rfl⟩:=ln3 hvl;have e8:=cev qa qb 4 8;have t8:=act_tmp e8;obtain⟨hu,hb⟩:=hS;rw [hu] at e8;have t8:=act_tmp e8
   exact wp_value' (.bool (!r)) W (by unfold execOp;go_simp) ⟨_,rfl,rfl,hb⟩
  | 4=>cases hk;cases ho;obtain⟨u0,u1,u2,u3,rfl⟩:=ln4 hvl;have e9:=cev qa qb 5 9;have t9:=act_tmp e9;obtain⟨hu,hb⟩:=hS;rw [hu] at e9;exact wp_assign' (.tmp 9) rfl ⟨_,congrArg (F.put _) e9,rfl,hb⟩
  | k+5=>exact absurd hk (by simp)
 case hend=>
  intro U vs W hS hvl hfr hch
  obtain⟨x0,x1,x2,x3,x4,rfl⟩:=ln5 hvl
  obtain⟨hx,hb⟩:=hS
  have q6:U 6=.bool (!r):=by
   have:=hch 4 6 rfl
   simp only [List.getElem?_cons_zero,List.getElem?_cons_succ,Option.some.injEq] at this
   rw [<-this,hx]
  clear hfr hch
  simp [putU,dstAt,Act.put,q6]
  exact HQ.out _ _ ff hb
theorem closure_any (o:OpC) (oA:O) (on oc:Nat) (w:World) (hb11:Blk w b11 28 #[.slice A n c]) (ho:OpsIs w Sx A n c os) (hz:n<=4294967296) :
 Calls prog 58 #[.agg #[.int .i64 o.n,o.epoch,o.kind,o.site,o.client,o.seq,.string o.name,o.size,.slice oA on oc],.pointer (some ⟨b11,0,none⟩)] w fun x w'=>x=.returned (.bool (!(hasB os o.n o.epoch)))/\Below w w w':=by
 have hb0:Below w w (w.alloc (.cells #[.int .i64 o.n,o.epoch,o.kind,o.site,o.client,o.seq,.string o.name,o.size,.slice oA on oc] 45)):=(Below.refl _ _).alloc (Nat.le_refl _) _
 have hk:=Blk.new w 45 #[.int .i64 o.n,o.epoch,o.kind,o.site,o.client,o.seq,.string o.name,o.size,.slice oA on oc]
 have hk11:=hb11.below hb0 hb11.lt
 have ho1:=ho.below hb0
 have hs:(w.alloc (.cells #[.int .i64 o.n,o.epoch,o.kind,o.site,o.client,o.seq,.string o.name,o.size,.slice oA on oc] 45)).heap.size=w.heap.size+1:=by simp
 obtain⟨r,hr⟩:∃ r,r=hasB os o.n o.epoch:=⟨_,rfl⟩
 rw [<-hr]
 obtain⟨HB0,HK,HK11,HO,HZ,HR⟩:=J6 hb0 hk hk11 ho1 hz hr
 clear hb0 hk hk11 ho1 hz hr hb11 ho hs
 go_enter func58,ntmps58
 conv=>arg 2;arg 2;arg 1;change part [1,0] (codeOf clF)
 go_wp2_with fail
 refine cl1 _ _ ff HK11.out HK.out HO.out HZ.out HR.out fun a' W hf hb=>?_
 obtain⟨t,df⟩:=a'
 obtain⟨hd,hs,h3,-⟩:=hf
 simp only at hd hs h3
 subst hd
 rw [eta10 t hs,h3]
 clear hs h3
 have HB:=J (HB0.out.trans (hb.mono HB0.out.size))
 clear hb
 go_wp2_with fail
 go_ret
 exact⟨rfl,HB.out⟩
end
section
variable {b11 n c:Nat} {A:O} {os ops:List OpC} {Sx Sy:Nat->Prop} {pA:O} {pn pc:Nat}
section
variable (w:World) (hb11:Blk w b11 28 #[.slice A n c]) (ho:OpsIs w Sx A n c os) (hz:n<=4294967296) (hp:OpsIs w Sy pA pn pc ops) (hpz:pn<=4294967296)
include w hb11 ho hz hp hpz
theorem indexF_any :
 Calls prog 97 #[.slice pA pn pc,.func (.func 58) #[] #[.pointer (some ⟨b11,0,none⟩)]] w fun x w'=>(∃ i:Int,x=.returned (.int .i64 i)/\decide (0<=i) = !(ops.all fun o=>hasB os o.n o.epoch))/\Below w w w':=by
 have hlen:=hp.len
 obtain⟨HB11,HO,HZ,HP,HL⟩:=J5 hb11 ho hz hp hlen
 clear hb11 ho hz hp hlen
 go_enter func97,ntmps97
 go_wp2_with fail
 go_loopw [8] (fun i wr=>∃ k:Nat,k<=pn/\i=.int .i64 k/\(ops.all fun o=>hasB os o.n o.epoch)=(ops.drop k).all (fun o=>hasB os o.n o.epoch)/\Below w w wr) (fun i _=>pn-(intOf i).toNat)
 case atStart=>exact⟨0,by omega,rfl,rfl,Below.refl _ _⟩
 case round=>
  obtain⟨k,hk,rfl,hrr,hbw⟩:=hrel
  obtain⟨HBW,HRR⟩:=J2 hbw hrr
  clear hrr
  rcases Nat.lt_or_ge k pn with hk1|hk1
  ·obtain⟨ad,o,xA,xn,xc,rfl,hab,hck,hop,hss⟩:=(HP.out.below hbw).at_ hk1
   have HT:=J (all_drop (f:=fun o=>hasB os o.n o.epoch) hck)
   obtain⟨c0,c1,c2,c3,c4,c5,c6,c7,c8⟩:=hop
   simp only [OpC.at_] at c0 c1 c2 c3 c4 c5 c6 c7 c8
   have d1:decide ((k:Int)<(pn:Int))=true:=decide_eq_true (by omega)
   have d2:decide (k<pn)=true:=decide_eq_true hk1
   have z2:(0:Int)<=(k:Nat):=by omega
   have z3:((k:Nat):Int)<((pn:Nat):Int):=by omega
   have hcl:=closure_any o xA xn xc wr (HB11.out.below hbw HB11.out.lt) (HO.out.below hbw) HZ.out
   obtain⟨r,hr⟩:∃ r,r=hasB os o.n o.epoch:=⟨_,rfl⟩
   rw [<-hr] at hcl
   obtain⟨HCL,HR⟩:=J2 hcl hr
   clear hbw hck hss hab hcl hr
   go_wp2_with fail
   refine HCL.out.mono ?_
   rintro e w2 ⟨rfl,hb2⟩
   have HB2:=J (HBW.out.trans (hb2.mono HBW.out.size))
   clear hb2
   cases r with
   | true=>
    go_wp2
    refine⟨⟨k+1,hk1,rfl,?_,HB2.out⟩,by simp only [intOf];omega⟩
    rw [HRR.out,HT.out,<-HR.out,Bool.true_and]
   | false=>
    go_wp2
    refine bodyPost_ret (results_tmp rfl _ _ _) rfl ⟨⟨k,rfl,?_⟩,HB2.out⟩
    rw [HRR.out,HT.out,<-HR.out,Bool.false_and]
    exact decide_eq_true (by omega)
  ·obtain rfl:k=pn:=by omega
   have d1:decide ((k:Int)<(k:Int))=false:=decide_eq_false (by omega)
   have d2:decide (k<k)=false:=decide_eq_false (by omega)
   clear hbw
   go_wp2
   have e:ops.drop k=[]:=List.drop_of_length_le (by have:=HL.out;omega)
   refine bodyPost_ret (results_tmp rfl _ _ _) rfl ⟨⟨-1,rfl,?_⟩,HBW.out⟩
   rw [HRR.out,e];rfl
theorem containsF_any :
 Calls prog 57 #[.slice pA pn pc,.func (.func 58) #[] #[.pointer (some ⟨b11,0,none⟩)]] w fun x w'=>x=.returned (.bool (!(ops.all fun o=>hasB os o.n o.epoch)))/\Below w w w':=by
 have hix:=indexF_any w hb11 ho hz hp hpz
 obtain⟨r,hr⟩:∃ r,r=ops.all fun o=>hasB os o.n o.epoch:=⟨_,rfl⟩
 rw [<-hr] at hix ⊢
 have HIX:=J hix
 clear hix hr hb11 ho hz hp hpz
 go_enter func57,ntmps57
 go_wp2_with fail
 refine HIX.out.mono ?_
 rintro e w2 ⟨⟨i,rfl,hi⟩,hb2⟩
 have HB2:=J hb2
 clear hb2
 go_wp2
 go_ret
 exact⟨rfl,HB2.out⟩
end
end
end Go.Proofs.Ytaipgdhdfpemcaa
