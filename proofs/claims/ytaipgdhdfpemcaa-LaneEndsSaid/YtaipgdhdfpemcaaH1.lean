/- THE WALKS OF LaneEnds, part 1. -/
import Derived.LoopN
import Derived.Test.YtaipgdhdfpemcaaEnBase
namespace Go.Proofs.Ytaipgdhdfpemcaa
set_option linter.all false
open Go.RowKit Go.Proofs.Try
set_option maxRecDepth 100000
set_option maxHeartbeats 4000000
theorem EY1 {p:Prop} (h:p:=by
 intro i o F U W ho hGW hat hoff hp
 have hrefl:=fun W:World=>(rfl:W=W)
 have e0:F.eval (.tmp 0)=.pointer (some ⟨tb,0,none⟩):=(hoff 0 kd).trans rfl
 have t0:=act_tmp e0
 have e1:F.eval (.tmp 1)=.int .i64 (s:Nat):=(hoff 1 kd).trans rfl
 have t1:=act_tmp e1
 have e9:F.eval (.tmp 9)=.pointer (some ⟨b,0,none⟩):=(hoff 9 kd).trans rfl
 have t9:=act_tmp e9
 have qa:=Lib.hid hat
 have qb:=Lib.hid hp
 clear hat hoff hp
 match i with
  | 0=>
   cases ho
   exact vn ⟨_,rfl,rfl,hGW,hrefl W⟩
  | 1=>
   cases ho
   have t26:=tv qa qb 0 26
   have d0:=HB.out.cell 0
   have d1:=HB.out.cell 1
   simp at d0 d1
   exact vn ⟨_,rfl,rfl,hGW,hrefl W⟩
  | 2=>
   cases ho
   have t27:=tv qa qb 1 27
   exact vn ⟨_,rfl,rfl,hGW,hrefl W⟩ (h:=by unfold execOp;go_simp;all_goals first|omega|exact IntWalk.i64_in _ (by omega))
  | 3=>
   cases ho
   have t28:=tv qa qb 2 28
   exact vn ⟨_,rfl,rfl,hGW,hrefl W⟩
  | 4|6=>
   cases ho
   have eg:=ev qa qb 3 29 .guard
   refine on_ ((wanted_by rfl rfl eg).trans rfl) ?_
   exact vl ⟨_,rfl,rfl,hGW,hrefl W⟩
  | 5=>
   cases ho
   have eg:=ev qa qb 3 29 .guard
   refine on_ ((wanted_by rfl rfl eg).trans rfl) ?_
   have t30:=tv qa qb 4 30
   have d0:=HB.out.cell 0
   have d1:=HB.out.cell 1
   simp at d0 d1
   exact vl ⟨_,rfl,rfl,hGW,hrefl W⟩
  | 7=>
   cases ho
   have eg:=ev qa qb 3 29 .guard
   refine on_ ((wanted_by rfl rfl eg).trans rfl) ?_
   have t31:=tv qa qb 5 31
   have t32:=tv qa qb 6 32
   exact vl ⟨_,rfl,rfl,hGW,hrefl W⟩ (h:=by unfold execOp;go_simp;all_goals first|omega|exact IntWalk.i64_in _ (by omega))
  | 8=>
   cases ho
   have t29:=tv qa qb 3 29
   have t33:=tv qa qb 7 33
   exact vn ⟨_,rfl,rfl,hGW,hrefl W⟩
  | 9=>
   cases ho
   have t34:=tv qa qb 8 34
   exact vn ⟨_,rfl,rfl,hGW,hrefl W⟩
  | 10|12|13=>
   cases ho
   have eg:=ev qa qb 9 35 .guard
   refine on_ ((wanted_by rfl rfl eg).trans rfl) ?_
   exact vl ⟨_,rfl,rfl,hGW,hrefl W⟩
  | 11=>
   cases ho
   have eg:=ev qa qb 9 35 .guard
   refine on_ ((wanted_by rfl rfl eg).trans rfl) ?_
   have t36:=tv qa qb 10 36
   have d0:=HB.out.cell 0
   have d1:=HB.out.cell 1
   simp at d0 d1
   exact vl ⟨_,rfl,rfl,hGW,hrefl W⟩
  | 14=>
   cases ho
   have eg:=ev qa qb 9 35 .guard
   refine on_ ((wanted_by rfl rfl eg).trans rfl) ?_
   have t38:=tv qa qb 12 38
   exact vl ⟨_,rfl,rfl,hGW,hrefl W⟩
  | 15=>
   cases ho
   have eg:=ev qa qb 9 35 .guard
   refine on_ ((wanted_by rfl rfl eg).trans rfl) ?_
   have t40:=tv qa qb 14 40
   exact vl ⟨_,rfl,rfl,hGW,hrefl W⟩
  | 16=>
   cases ho
   have eg:=ev qa qb 9 35 .guard
   refine on_ ((wanted_by rfl rfl eg).trans rfl) ?_
   have t41:=tv qa qb 15 41
   have t39:=tv qa qb 13 39
   exact vl ⟨_,rfl,rfl,hGW,hrefl W⟩ (h:=by unfold execOp;go_simp;all_goals first|omega|exact IntWalk.i64_in _ (by omega))
  | 17=>
   cases ho
   have eg:=ev qa qb 9 35 .guard
   refine on_ ((wanted_by rfl rfl eg).trans rfl) ?_
   have t42:=tv qa qb 16 42
   have d0:=HC.out
   exact vl ⟨_,rfl,rfl,hGW,hrefl W⟩
  | 18=>
   cases ho
   have eg:=ev qa qb 9 35 .guard
   refine on_ ((wanted_by rfl rfl eg).trans rfl) ?_
   have e43:=ev qa qb 17 43
   have t43:=act_tmp e43
   refine wp_enter' 24 #[.pointer (some ⟨gs,0,none⟩)] (by unfold execOp;go_simp) ?_
   rw [hGW]
   refine HF.out.mono ?_
   rintro e W' ⟨rfl,rfl⟩
   exact⟨_,rfl,_,rfl,rfl,rfl,rfl⟩
  | 19=>
   cases ho
   have eg:=ev qa qb 9 35 .guard
   refine on_ ((wanted_by rfl rfl eg).trans rfl) ?_
   have t37:=tv qa qb 11 37
   have t44:=tv qa qb 18 44
   exact vl ⟨_,rfl,rfl,hGW,hrefl W⟩ (h:=by unfold execOp;go_simp;all_goals first|omega|exact IntWalk.i64_in _ (by omega))
  | 20=>
   cases ho
   have t35:=tv qa qb 9 35
   have t45:=tv qa qb 19 45
   exact vn ⟨_,rfl,rfl,hGW,hrefl W⟩
  | i+21=>exact absurd ho (by simp)):p:=h
theorem EY2 {p:Prop} (h:p:=by
 have HQ:=J hQ
 clear hQ
 refine gg hfr fun t=>?_
 go_wp2_with fail
 exact HQ.out _ ff):p:=h
theorem EY3 {p:Prop} (h:p:=by
 exact vl ⟨rfl,rfl⟩ (h:=by unfold execOp;go_simp;all_goals first|rfl|omega|exact z3|exact z4|exact hK|exact hK'|exact IntWalk.i64_in _ (by omega))):p:=h
theorem EY4 {p:Prop} (h:p:=by
 exact vl ⟨rfl,rfl⟩ (h:=by unfold execOp;go_simp;all_goals first|rfl|omega|exact IntWalk.i64_in _ (by omega))):p:=h
theorem EY5 {p:Prop} (h:p:=by
 refine gg hfr fun t=>?_
 go_wp2_with fail
 refine HQ.out _ _ (bodyPost_ret (results_tmp rfl _ _ _) rfl ?_)
 exact HR.out):p:=h
theorem EY6 {p:Prop} (h:p:=by
 intro U W hGW hV
 have hx:U 20=.bool true:=hV 20 kd
 clear hV
 obtain rfl:=hGW
 simp [putU,dstAt,Act.put]
 exact HQ.out _ ⟨rfl,rfl,rfl,rfl,rfl,rfl,rfl,rfl,hx,trivial⟩):p:=h
theorem EY7 {p:Prop} (h:p:=by
 obtain⟨hm,hb⟩:=hS
 obtain⟨cs,rfl,hap⟩:=HA.out _ _ hm hb
 refine wp_enter' 13 #[.pointer (some ⟨gs,0,none⟩),.agg cs] (by unfold execOp;go_simp) ?_
 refine hap.mono ?_
 rintro e W' ⟨⟨v,rfl⟩,hr⟩
 exact⟨_,rfl,_,rfl,hr⟩):p:=h
theorem EY8 {p:Prop} (h:p:=by
 have hk:=hS
 clear hfr hch hS
 simp [putU,dstAt,Act.put]
 exact HQ.out _ _ ff hk):p:=h
theorem EY9 {p:Prop} (h:p:=by
 obtain⟨A',c',e,hc,_,hr⟩:=own_slice h.1
 injection e with e1 _ e3
 subst e1 e3
 exact⟨⟨hr,fun x hx=>⟨(h.2.1 x hx).1,(h.2.1 x hx).2.1.mono fun b _ y=>y.1,(h.2.1 x hx).2.2⟩⟩,hc⟩):p:=h
theorem EY10 {p:Prop} (h:p:=by
 obtain rfl:=hS
 refine wp_enter' 14 #[.agg x.cells.toArray] (by unfold execOp;go_simp) ?_
 refine HO.out.mono ?_
 rintro e W' ⟨v,rfl,hm,hb⟩
 exact⟨_,rfl,v,rfl,hm,hb⟩):p:=h
theorem EY11 {p:Prop} (h:p:=by
 conv=>arg 4;whnf
 exact HQ.out a w1 ⟨d,z.out,at_of t5,at_of t9,at_of t10,at_of t12,at_of t13,at_of t15,at_of t17,at_of t18,at_of t19,at_of t86,at_of t87,trivial⟩ hr):p:=h
theorem EY12 {p:Prop} (h:p:=by
 obtain rfl:=hS.nil_ (hlim 0 19 rfl rfl)
 have d0:=HS.out
 exact vl ⟨rfl,rfl⟩):p:=h
theorem EY13 {p:Prop} (h:p:=by
 have hsm:=hS.low (hlim 1 20 rfl rfl)
 have d0:=(hsm.cell (show (⟨tb,u,none⟩:Addr).block<w0 from HL.out)).trans HC.out
 exact vl ⟨rfl,rfl⟩):p:=h
theorem EY14 {p:Prop} (h:p:=by
 have HQ:=J hQ
 clear hQ
 refine gg hfr fun t=>?_
 go_wp2_with fail
 exact HQ.out _ ⟨rfl,rfl,rfl,rfl,rfl,rfl,rfl,rfl,rfl,by simp [at_],trivial⟩):p:=h
theorem EY15 {p:Prop} (h:p:=by
 exact vl ⟨rfl,rfl⟩ (h:=by have q1:=HM.out;unfold execOp;go_simp;all_goals first|rfl|omega|exact IntWalk.i64_in _ (by omega))):p:=h
theorem EY16 {p:Prop} (h:p:=by
 exact vn ⟨_,rfl,rfl,hGW,hrefl W⟩ (h:=by unfold execOp;go_simp;all_goals first|rfl|omega|exact IntWalk.i64_in _ (by omega))):p:=h
theorem EY17 {p:Prop} (h:p:=by
 obtain⟨b,h1,h2,h3⟩:=h.v14 hL
 rw [updU_ne (by omega),setL_ne (by omega)]
 exact⟨b,h1,h2,h3.below hb h3.lt⟩):p:=h
theorem EY18 {p:Prop} (h:p:=by
 exact⟨b,h1,h2,h3.far (hX b (.inr h2)) _⟩):p:=h
theorem EY19 {p:Prop} (h:p:=by
 rw [setL_ne e] at hL
 exact h.st j u hj hL):p:=h
theorem EY20 {p:Prop} (h:p:=by
 rw [sL_ne e] at hLj
 exact h.st j w hj hLj):p:=h
theorem EY21 {p:Prop} (h:p:=by
 cases ho
 have eg:=ev qa qb 9 35 .guard
 exact off_ (W:=W) ((wanted_by rfl rfl eg).trans rfl) rfl):p:=h
theorem EY22 {p:Prop} (h:p:=by
 cases ho
 exact vl ⟨rfl,rfl⟩):p:=h
theorem EY23 {p:Prop} (h:p:=by
 exact⟨A2,c2,h1,h2.kept fun q hq=>hk.2 q (hX q ((h3 q hq).imp (h0.tX q) id)) (h2.lt q hq).2,h3⟩):p:=h
theorem EY24 {p:Prop} (h:p:=by
 rw [hmu,e2]
 simp only [Int.toNat_natCast]
 omega):p:=h
theorem EY25 {p:Prop} (h:p:=by
 refine HA.out.mono ?_
 rintro e W' ⟨⟨v,rfl⟩,hr⟩
 exact⟨_,rfl,_,rfl,hr⟩):p:=h
theorem EY26 {p:Prop} (h:p:=by
 have HQ:=J hQ
 clear hQ hb
 refine gg hfr fun t=>?_
 go_wp2_with fail
 exact HQ.out _ ff):p:=h
theorem EY27 {p:Prop} (h:p:=by
 exact vn ⟨_,rfl,rfl,hGW,hrefl W⟩):p:=h
theorem EY28 {p:Prop} (h:p:=by
 cases ho
 have t27:=tv qa qb 1 27
 exact vn ⟨_,rfl,rfl,hGW,hrefl W⟩ (h:=by unfold execOp;go_simp;all_goals first|omega|exact IntWalk.i64_in _ (by omega))):p:=h
theorem EY29 {p:Prop} (h:p:=by
 have hfr:Fr 43 a []:=⟨h.1,h.2,trivial⟩
 have hr:TwoR W (.returned (.pointer none)) w:=⟨hl,.inl rfl⟩
 obtain⟨HR,HQ⟩:=J2 hr hQ
 clear h hQ hl hr
 exact EY5):p:=h
theorem EY30 {p:Prop} (h:p:=by
 have hfr:Fr 170 a []:=⟨h.1,h.2,trivial⟩
 have hr:EndsR W (.returned (.bool true)) w:=⟨rfl,hl⟩
 obtain⟨HR,HQ⟩:=J2 hr hQ
 clear h hl hr hQ
 exact EY5):p:=h
theorem EY31 {p:Prop} (h:p:=by
 cases ho
 have t26:=tv qa qb 0 26
 have d0:=HB.out.cell 0
 have d1:=HB.out.cell 1
 simp at d0 d1
 exact EY27):p:=h
section
variable {P:Program} {ops:Array Oper} {Q:Exit->Act->World->Prop} {rest:List Oper} {o:Oper} {a:Act} {w:World}
theorem at_of {t:Array Value} {k:Nat} {v:Value} (h:t[k]?.getD undef=v):at_ t k=v:=by
 rw [<-h]
 simp [at_]
theorem of_at {t:Array Value} {k:Nat} {v:Value} (h:at_ t k=v):t[k]?.getD undef=v:=by
 rw [<-h]
 simp [at_]
theorem ev_at {k:Nat} {v:Value} (h:a.tmps[k]?.getD undef=v):a.eval (.tmp k)=v:=by simpa [Act.eval] using h
def Nx (a:Act) (k:Nat) (v:Value) (a':Act):Prop:=a'.defers=a.defers/\a'.tmps.size=a.tmps.size/\a'.tmps[k]?.getD undef=v/\∀ j,j≠k->a'.tmps[j]?.getD undef=a.tmps[j]?.getD undef
theorem Nx.put (k:Nat) (v:Value) (hk:k<a.tmps.size):Nx a k v (a.put (some k) v):=by
 refine⟨rfl,by simp [Act.put],by simp [Act.put,hk],fun j hj=>?_⟩
 have h:¬ k=j:=fun e=>hj e.symm
 simp [Act.put,h]
theorem wpl_v (k:Nat) (v:Value) (hk:k<a.tmps.size) (hn:∀ a',Nx a k v a'->wpList P ops Q rest a' w) (hgd:o.guard=none:=by rfl) (hd:o.dst=some k:=by rfl) (h:(execOp a.eval o).run P w=.ok (.value v) w:=by unfold execOp;go_simp):wpList P ops Q (o::rest) a w:=
 wpList_value' hgd v w h (by rw [hd];exact hn _ (Nx.put k v hk))
theorem wpl_w (k:Nat) (v:Value) (w':World) (hk:k<a.tmps.size) (hn:∀ a',Nx a k v a'->wpList P ops Q rest a' w') (hgd:o.guard=none:=by rfl) (hd:o.dst=some k:=by rfl) (h:(execOp a.eval o).run P w=.ok (.value v) w':=by unfold execOp;go_simp):wpList P ops Q (o::rest) a w:=
 wpList_value' hgd v w' h (by rw [hd];exact hn _ (Nx.put k v hk))
theorem wpl_e (k:Nat) (f:FuncId) (args:Array Value) (hk:k<a.tmps.size) (h:(execOp a.eval o).run P w=.ok (.enter f args) w) (hc:Calls P f args w fun e W'=>∃ v,e=.returned v/\∀ a',Nx a k v a'->wpList P ops Q rest a' W') (hgd:o.guard=none:=by rfl) (hd:o.dst=some k:=by rfl):wpList P ops Q (o::rest) a w:=
 wpList_enter' hgd f args h (hc.mono fun e W' ⟨v,e1,hn⟩=>⟨v,e1,by rw [hd];exact hn _ (Nx.put k v hk)⟩)
theorem wpl_s (w':World) (hn:wpList P ops Q rest a w') (hgd:o.guard=none:=by rfl) (hd:o.dst=none:=by rfl) (h:(execOp a.eval o).run P w=.ok .skip w':=by unfold execOp;go_simp):wpList P ops Q (o::rest) a w:=by
 refine wpList_plain hgd fun K hK=>wp_skip' w' h ?_
 rw [hd]
 exact hK _ _ hn
theorem wpl_l (k:Nat) (ty:TypeId) (x:Operand) (b i:Nat) (cs:List Value) (d:TypeDesc) (hk:k<a.tmps.size) (hx:a.eval x=.pointer (some ⟨b,i,none⟩)) (hc:w.rangeAt b i cs) (hu:P.underlying ty=some d) (hi:(P.info? ty).map (·.size)=some cs.length)
 (hn:∀ a',Nx a k (.agg cs.toArray) a'->wpList P ops Q rest a' w) (ho:o.op=.load ty x:=by rfl) (hr:d.isRow=true:=by rfl) (hgd:o.guard=none:=by rfl) (hd:o.dst=some k:=by rfl):wpList P ops Q (o::rest) a w:=
 wpList_load_mid hgd ty x ho b i hx cs d hc hu hr hi (by rw [hd];exact hn _ (Nx.put k _ hk))
theorem wpl_t (ty:TypeId) (x y:Operand) (b i:Nat) (cells:Array Value) (hx:a.eval x=.pointer (some ⟨b,i,none⟩)) (hy:a.eval y=.agg cells) (ht:w.there b i cells.size) (hi:(P.info? ty).map (·.size)=some cells.size) (h1:cells.all (·.oneCell')=true)
 (hn:wpList P ops Q rest a (w.setCells b i cells.toList)) (ho:o.op=.store ty x y:=by rfl) (hgd:o.guard=none:=by rfl) (hd:o.dst=none:=by rfl):wpList P ops Q (o::rest) a w:=
 wpList_store_mid hgd ty x y ho b i cells hx hy ht hi h1 (by rw [hd];exact hn)
theorem wpl_lb (k:Nat) (ty:TypeId) (x:Operand) (b:Nat) (cs:Array Value) (d:TypeDesc) (hk:k<a.tmps.size) (hx:a.eval x=.pointer (some ⟨b,0,none⟩)) (hc:Blk w b ty cs) (hu:P.underlying ty=some d) (hi:(P.info? ty).map (·.size)=some cs.size)
 (hn:∀ a',Nx a k (.agg cs) a'->wpList P ops Q rest a' w) (ho:o.op=.load ty x:=by rfl) (hr:d.isRow=true:=by rfl) (hgd:o.guard=none:=by rfl) (hd:o.dst=some k:=by rfl):wpList P ops Q (o::rest) a w:=
 wpl_l k ty x b 0 cs.toList d hk hx hc.range hu (by rw [hi,Array.length_toList]) hn ho hr hgd hd
theorem wpl_tb (ty:TypeId) (x y:Operand) (b:Nat) (c0 cells:Array Value) (hx:a.eval x=.pointer (some ⟨b,0,none⟩)) (hy:a.eval y=.agg cells) (hb:Blk w b ty c0) (hz:c0.size=cells.size) (hi:(P.info? ty).map (·.size)=some cells.size) (h1:cells.all (·.oneCell')=true)
 (hn:wpList P ops Q rest a (w.setCells b 0 cells.toList)) (ho:o.op=.store ty x y:=by rfl) (hgd:o.guard=none:=by rfl) (hd:o.dst=none:=by rfl):wpList P ops Q (o::rest) a w:=
 wpl_t ty x y b 0 cells hx hy (hb.there_ 0 _ (by omega)) hi h1 hn ho hgd hd
theorem wpl_la (k:Nat) (ty:TypeId) (x:Operand) (ad:Addr) (cs:Array Value) (d:TypeDesc) (hk:k<a.tmps.size) (hx:a.eval x=.pointer (some ad)) (hc:∀ j v,cs.toList[j]? = some v->w.cell? (ad.add j)=some v) (hu:P.underlying ty=some d) (hi:(P.info? ty).map (·.size)=some cs.size)
 (hn:∀ a',Nx a k (.agg cs) a'->wpList P ops Q rest a' w) (ho:o.op=.load ty x:=by rfl) (hr:d.isRow=true:=by rfl) (hgd:o.guard=none:=by rfl) (hd:o.dst=some k:=by rfl):wpList P ops Q (o::rest) a w:=
 wpList_load_any hgd ty x ho ad hx cs.toList d hc hu hr (by rw [hi,Array.length_toList]) (by rw [hd];exact hn _ (Nx.put k _ hk))
theorem wpl_on {j t:Nat} {b:Bool} (hv:a.tmps[t]?.getD undef=.bool b) (hn:wpList P ops Q ({o with guard:=none}::rest) a w) (hg:o.guard=some (j,b):=by rfl) (hj:dstAt ops j=some t:=by kernel_rfl):wpList P ops Q (o::rest) a w:=by
 have hw:Region.wanted o (yielded ops a.tmps)=true:=(wanted_by hg hj (ev_at hv)).trans (by cases b<;>rfl)
 have hw2:Region.wanted {o with guard:=none} (yielded ops a.tmps)=true:=wanted_none rfl
 unfold wpList at hn ⊢
 rw [if_pos hw2] at hn
 rw [if_pos hw]
 exact hn
theorem wpl_off {j t:Nat} {b c:Bool} (k:Nat) (hv:a.tmps[t]?.getD undef=.bool c) (hk:k<a.tmps.size) (hn:∀ a',Nx a k undef a'->wpList P ops Q rest a' w) (hg:o.guard=some (j,b):=by rfl) (hc:(c==b)=false:=by rfl) (hj:dstAt ops j=some t:=by kernel_rfl) (hd:o.dst=some k:=by rfl):wpList P ops Q (o::rest) a w:=by
 have hw:Region.wanted o (yielded ops a.tmps)=false:=(wanted_by hg hj (ev_at hv)).trans hc
 unfold wpList
 rw [if_neg (by rw [hw];decide),hd]
 exact hn _ (Nx.put k undef hk)
end
@[reducible] def cmd0 (kind epoch site after since:Int) (pA:O) (pn pc:Nat):Array Value:=#[.int .i64 kind,.int .i64 epoch,.int .i64 site,.int .i64 0,.int .i64 0,.int .i64 0,.int .i64 0,.int .i64 0,.int .i64 0,.string ⟨#[]⟩,.int .i64 0,.slice none 0 0,.int .i64 after,.int .i64 since,.slice pA pn pc,.int .i64 0]
theorem cmd0_eq (kind epoch site after since:Int) (pA:O) (pn pc:Nat):cmd0 kind epoch site after since pA pn pc=cmdC kind epoch site opZ none 0 0 after since pA pn pc 0:=rfl
theorem cmd0_one {kind epoch site after since:Int} {pA:O} {pn pc:Nat}:(cmd0 kind epoch site after since pA pn pc).all (·.oneCell')=true:=by rw [cmd0_eq];exact cmdC_one
def SentIs (w:World) (B:Nat) (S:Nat->Prop) (A:Option Addr) (n c:Nat) (xs:List CmdX):Prop:=
 w.ownsRow B 47 16 (.slice A n c) n (xs.flatMap (·.cells))/\(∀ x∈xs,x.cells.length=16/\CmdIs w (fun b=>S b/\some b≠ob A) x.cells.toArray x.c/\x.c.Ok)/\∀ g,ob A=some g->S g
section
variable {w w':World} {B:Nat} {S S':Nat->Prop} {A:Option Addr} {n c:Nat} {xs:List CmdX}
theorem SentIs.lt (h:SentIs w B S A n c xs):∀ g,ob A=some g->B<=g/\g<w:=fun g hg=>h.1.lt g (by rw [ownBlock_slice];exact hg)
theorem SentIs.kept (h:SentIs w B S A n c xs) (hk:Kept S w w'):SentIs w' B S A n c xs:=
 ⟨ownsRow_keep h.1 fun g hg=>by rw [ownBlock_slice] at hg;exact hk.2 g (h.2.2 g hg) (h.lt g hg).2,fun x hx=>⟨(h.2.1 x hx).1,(h.2.1 x hx).2.1.kept (hk.mono fun b _ y=>y.1),(h.2.1 x hx).2.2⟩,h.2.2⟩
theorem SentIs.mono (h:SentIs w B S A n c xs) (hi:∀ b,b<w.heap.size->S b->S' b):SentIs w B S' A n c xs:=
 ⟨h.1,fun x hx=>⟨(h.2.1 x hx).1,(h.2.1 x hx).2.1.mono fun b hb y=>⟨hi b hb y.1,y.2⟩,(h.2.1 x hx).2.2⟩,fun g hg=>hi g (h.lt g hg).2 (h.2.2 g hg)⟩
theorem SentIs.cmds (h:SentIs w B S A n c xs):CmdsIs w S A n xs/\n<=c:=by
 exact EY9
theorem SentIs.nil_ (w:World) (B:Nat) (S:Nat->Prop):SentIs w B S none 0 0 []:=⟨World.ownsRow_nil _ _ _ _,fun x hx=>absurd hx (by simp),fun g hg=>by simp [ob] at hg⟩
end
def ToIs (w:World) (B:Nat) (A:Option Addr) (n c:Nat) (ts:List Nat):Prop:=w.ownsRow B 3 1 (.slice A n c) n (ts.map fun t=>Value.int .i64 (t:Nat))
section
variable {w w':World} {B:Nat} {A:Option Addr} {n c:Nat} {ts:List Nat}
theorem ToIs.lt (h:ToIs w B A n c ts):∀ g,ob A=some g->B<=g/\g<w:=fun g hg=>World.ownsRow.lt h g (by rw [ownBlock_slice];exact hg)
theorem ToIs.kept (h:ToIs w B A n c ts) (hk:∀ q,ob A=some q->w'.heap[q]? = w.heap[q]?):ToIs w' B A n c ts:=ownsRow_keep h fun g hg=>by rw [ownBlock_slice] at hg;exact hk g hg
theorem ToIs.len (h:ToIs w B A n c ts):ts.length=n:=by
 have:=h.1
 rw [List.length_map] at this
 omega
end
structure Town (w:World) (tb:Nat) (g:Nat->Nat) (Y:Nat->Nat->Prop) (X:Nat->Prop) (k:Nat) (t:Tn):Prop where
 led:∀ s,s<2->LedIs w (tb+1) (g s) (Y s) k (t.L s) (t.f s)
 dis:∀ s r,s<2->r<2->s≠r->∀ q,Y s q->¬ Y r q
 out:∀ q,X q->tb<q/\q<w/\∀ s,s<2->¬ Y s q
 row:∃ sA sn sc tA tc xs,Blk w tb 119 #[.pointer (some ⟨g 0,0,none⟩),.pointer (some ⟨g 1,0,none⟩),.int .i64 t.T,.slice sA sn sc,.slice tA sn tc]/\SentIs w (tb+1) (fun q=>X q/\some q≠ob tA) sA sn sc xs/\xs.map (·.c)=t.sent.map (·.1)/\ToIs w (tb+1) tA sn tc (t.sent.map (·.2))/\∀ q,ob tA=some q->X q
section
variable {w w':World} {tb:Nat} {g:Nat->Nat} {Y:Nat->Nat->Prop} {X:Nat->Prop} {k:Nat} {t:Tn}
theorem Town.row_kept (h:Town w tb g Y X k t) (hb:w'.heap[tb]? = w.heap[tb]?) (hk:Kept X w w'):∃ sA sn sc tA tc xs,Blk w' tb 119 #[.pointer (some ⟨g 0,0,none⟩),.pointer (some ⟨g 1,0,none⟩),.int .i64 t.T,.slice sA sn sc,.slice tA sn tc]/\SentIs w' (tb+1) (fun q=>X q/\some q≠ob tA) sA sn sc xs/\xs.map (·.c)=t.sent.map (·.1)/\ToIs w' (tb+1) tA sn tc (t.sent.map (·.2))/\∀ q,ob tA=some q->X q:=by
 obtain⟨sA,sn,sc,tA,tc,xs,h1,h2,h3,h4,h5⟩:=h.row
 exact⟨sA,sn,sc,tA,tc,xs,hb.trans h1,h2.kept (hk.mono fun b _ y=>y.1),h3,h4.kept fun q hq=>hk.2 q (h5 q hq) (h4.lt q hq).2,h5⟩
theorem Town.below (h:Town w tb g Y X k t) (hb:Below w w w'):Town w' tb g Y X k t:=
 ⟨fun s hs=>(h.led s hs).below hb,h.dis,fun q hq=>⟨(h.out q hq).1,Nat.lt_of_lt_of_le (h.out q hq).2.1 hb.size,(h.out q hq).2.2⟩,h.row_kept (hb.block tb (by obtain⟨_,_,_,_,_,_,h1,_⟩:=h.row;exact h1.lt)) (Kept.of X hb)⟩
theorem Town.acted (h:Town w tb g Y X k t) {s:Nat} (hs:s<2) {k':Nat} {os:List OpC} {f:Int} (ha:Acted (tb+1) (g s) (Y s) k' os f w w') (hk:k<=k') :
 Town w' tb g (fun r=>if r=s then New (Y s) w w' else Y r) X k' (t.set s (os,f)):=by
 obtain⟨h1,h2,h3⟩:=ha
 have hl:=fun r hr=>(h.led r hr).1
 have hy:∀ r q,r<2->(if r=s then New (Y s) w w' else Y r) q->Y r q\/(r=s/\w.heap.size<=q):=by
  intro r q _ hq
  by_cases e:r=s
  ·rw [if_pos e] at hq
   rcases hq with hq|hq
   ·exact .inl (by rw [e];exact hq)
   ·exact .inr ⟨e,hq.1⟩
  ·rw [if_neg e] at hq
   exact .inl hq
 refine⟨fun r hr=>?_,fun a b hA hB hne q hqa hqb=>?_,fun q hq=>⟨(h.out q hq).1,Nat.lt_of_lt_of_le (h.out q hq).2.1 h2.1,fun r hr hq'=>?_⟩,?_⟩
 ·by_cases e:r=s
  ·subst e
   rw [Tn.set_L,Tn.set_f]
   simp only [if_true]
   exact h1
  ·rw [Tn.set_L' _ e,Tn.set_f' _ e]
   simp only [if_neg e]
   exact ((h.led r hr).kept (h2.mono fun q _ hq hq'=>h.dis r s hr hs e q hq hq')).more hk
 ·rcases hy a q hA hqa with ha|⟨ea,ha⟩<;>rcases hy b q hB hqb with hb|⟨eb,hb⟩
  ·exact h.dis a b hA hB hne q ha hb
  ·have:=(hl a hA q ha).2;omega
  ·have:=(hl b hB q hb).2;omega
  ·omega
 ·rcases hy r q hr hq' with hx|⟨_,hx⟩
  ·exact (h.out q hq).2.2 r hr hx
  ·have:=(h.out q hq).2.1;omega
 ·exact h.row_kept (h3.block tb (by omega)) (h2.mono fun q _ hq=>(h.out q hq).2.2 s hs)
end
theorem Try.infoCmd:(prog.info? 47).map (fun i=>(i.zero,i.size,i.bytes))=some (some (.agg noCmd),16,168):=by kernel_rfl
theorem at_most {w:World} {A' A:O} {b:Nat} (hb:ob A'=ob A\/ob A'=some w.heap.size) (h1:b<w) (h2:some b≠ob A):some b≠ob A':=by
 rcases hb with hb|hb
 ·rw [hb];exact h2
 ·rw [hb];intro e;injection e with e;omega
theorem run_append_sent {w:World} {B:Nat} {S:Nat->Prop} {A A2:O} {n c c2:Nat} {xs:List CmdX} {x:CmdX} (ty:TypeId) (h:SentIs w B S A n c xs) (hr:Reads w w.heap.size 16 A2 1 x.cells) (h16:x.cells.length=16) (hx:CmdIs w (fun b=>S b/\some b≠ob A) x.cells.toArray x.c) (hok:x.c.Ok) (hn:n<=4096) (hB:B<=w) :
 ∃ A' c' w',(Builtin.append_ #[22,22] ty #[.slice A n c,.slice A2 1 c2]).run prog w=.ok (.slice A' (n+1) c') w'/\SentIs w' B (fun b=>S b\/ob A'=some b) A' (n+1) c' (xs++[x])/\w.grownBy w' (ob A)/\(ob A'=ob A\/ob A'=some w.heap.size):=by
 obtain⟨h1,hv,hs⟩:=h
 obtain⟨i0,hi,hz0,hz1,hz2⟩:=info_parts Try.infoCmd
 have hone:∀ u∈x.cells,u.oneCell'=true:=by
  obtain⟨hA,hn,hc,pA,pn,pc,e,_⟩:=hx
  have h1:x.cells.toArray.all (·.oneCell')=true:=by rw [e];exact cmdC_one
  simpa using h1
 obtain⟨v',w',hrun,ho,hg,hb⟩:=run_append_any (P:=prog) w B 22 ty 47 i0 _ 16 168 underlying22 hi hz0 hz1 hz2 rfl (by omega) (.slice A n c) n (xs.flatMap (·.cells)) h1 w.heap.size A2 1 c2 x.cells hr hone (by unfold maxLen;omega) (by omega) hB
 rw [ownBlock_slice] at hg hb
 obtain⟨A',c',rfl,_⟩:=own_slice ho
 rw [ownBlock_slice] at hb
 have hk:Kept (fun b=>some b≠ob A) w w':=⟨hg.size,fun b h1 h2=>hg.block b h2 h1⟩
 refine⟨A',c',w',hrun,⟨by rw [List.flatMap_append];simpa using ho,fun y hy=>?_,fun g hg=>.inr hg⟩,hg,hb⟩
 have key:∀ y:CmdX,CmdIs w (fun b=>S b/\some b≠ob A) y.cells.toArray y.c->CmdIs w' (fun b=>(S b\/ob A'=some b)/\some b≠ob A') y.cells.toArray y.c:=fun y hy=>
  ((hy.mono (S':=fun b=>some b≠ob A/\(S b/\b<w)) fun b hb q=>⟨q.2,q.1,hb⟩).kept (hk.mono fun b _ q=>q.1)).mono fun b _ q=>⟨.inl q.2.1,at_most hb q.2.2 q.1⟩
 rcases List.mem_append.1 hy with hy|hy
 ·exact⟨(hv y hy).1,key y (hv y hy).2.1,(hv y hy).2.2⟩
 ·rw [List.mem_singleton] at hy
  subst hy
  exact⟨h16,key y hx,hok⟩
theorem run_append_to {w:World} {B:Nat} {A A2:O} {n c c2:Nat} {ts:List Nat} {u:Nat} (ty:TypeId) (h:ToIs w B A n c ts) (hr:Reads w w.heap.size 1 A2 1 [.int .i64 (u:Nat)]) (hn:n<=4096) (hB:B<=w) :
 ∃ A' c' w',(Builtin.append_ #[27,27] ty #[.slice A n c,.slice A2 1 c2]).run prog w=.ok (.slice A' (n+1) c') w'/\ToIs w' B A' (n+1) c' (ts++[u])/\w.grownBy w' (ob A)/\(ob A'=ob A\/ob A'=some w.heap.size):=by
 obtain⟨i0,hi,hz0,hz1,hz2⟩:=info_parts Try.infoInt
 obtain⟨v',w',hrun,ho,hg,hb⟩:=run_append_any (P:=prog) w B 27 ty 3 i0 _ 1 8 underlying27 hi hz0 hz1 hz2 rfl (by omega) (.slice A n c) n (ts.map fun t=>Value.int .i64 (t:Nat)) h w.heap.size A2 1 c2 [.int .i64 (u:Nat)] hr (fun v hv=>by rw [List.mem_singleton] at hv;rw [hv];rfl) (by unfold maxLen;omega) (by omega) hB
 rw [ownBlock_slice] at hg hb
 obtain⟨A',c',rfl,_⟩:=own_slice ho
 rw [ownBlock_slice] at hb
 exact⟨A',c',w',hrun,by unfold ToIs;rw [List.map_append];exact ho,hg,hb⟩
def sh8V (tb s u:Nat) (sA:O) (sn sc:Nat) (tA:O) (tn tc:Nat) (x:CmdX):Nat->Option Value
 | 0|1|2|3|9|10|17|20=>some (.pointer (some ⟨tb,0,none⟩))
 | 4|18=>some (.pointer (some ⟨tb,3,none⟩))
 | 11|21=>some (.pointer (some ⟨tb,4,none⟩))
 | 5=>some (.slice sA sn sc)
 | 6=>some (.agg x.cells.toArray)
 | 12=>some (.slice tA tn tc)
 | 13=>some (.int .i64 (s:Nat))
 | 14=>some (.int .i64 (u:Nat))
 | _=>none
structure Sh8 (w0:World) (tb s u:Nat) (g0 g1:Value) (T:Int) (X:Nat->Prop) (sA:O) (sn sc:Nat) (tA:O) (tn tc:Nat) (xs:List CmdX) (x:CmdX) (ts:List Nat) (L:Nat->Bool) (U:Nat->Value) (W:World):Prop where
 st:∀ i v,sh8V tb s u sA sn sc tA tn tc x i=some v->L i=true->U i=v
 kp:Kept (fun b=>(¬ X b\/(some b≠ob tA/\some b≠ob sA))/\b≠tb) w0 W
 low:Below tb w0 W
 o19:L 19=true->L 5=true/\L 12=true/\L 8=true/\L 16=true
 o22:L 22=true->L 19=true
 tbk:L 19=false->Blk W tb 119 #[g0,g1,T,.slice sA sn sc,.slice tA tn tc]
 v19:L 19=true->Blk W tb 119 #[g0,g1,T,U 8,if L 22=true then U 16 else .slice tA tn tc]
 v7:L 7=true->∃ b,U 7=.slice (some ⟨b,0,none⟩) 1 1/\w0.heap.size<=b/\Blk W b 47 x.cells.toArray
 s0:L 8=false->SentIs W (tb+1) (fun b=>X b/\some b≠ob tA) sA sn sc xs
 v8:L 8=true->∃ A' c',U 8=.slice A' (sn+1) c'/\SentIs W (tb+1) (fun b=>(X b\/w0.heap.size<=b)/\some b≠ob tA/\(L 16=true->some b≠(U 16).ownBlock)) A' (sn+1) c' (xs++[x])
 v15:L 15=true->∃ b,U 15=.slice (some ⟨b,0,none⟩) 1 1/\w0.heap.size<=b/\Blk W b 3 #[.int .i64 (u:Nat)]
 t0:L 16=false->ToIs W (tb+1) tA tn tc ts
 v16:L 16=true->∃ A' c',U 16=.slice A' (tn+1) c'/\ToIs W (tb+1) A' (tn+1) c' (ts++[u])/\∀ b,ob A'=some b->ob tA=some b\/w0.heap.size<=b
structure Sh80 (w0:World) (tb:Nat) (X:Nat->Prop) (sA tA:O) (x:CmdX):Prop where
 tl:tb<w0
 tX:∀ b,ob tA=some b->X b
 Xt:∀ b,X b->tb<b/\b<w0
 xc:CmdIs w0 (fun b=>X b/\some b≠ob tA/\some b≠ob sA) x.cells.toArray x.c
 x16:x.cells.length=16
 xok:x.c.Ok
section
variable {w0 W W':World} {tb s u:Nat} {g0 g1:Value} {T:Int} {X:Nat->Prop} {sA:O} {sn sc:Nat} {tA:O} {tn tc:Nat} {xs:List CmdX} {x:CmdX} {ts:List Nat} {L:Nat->Bool} {U:Nat->Value}
theorem uU_ne {i j:Nat} (h:j≠i) (v:Value):updU U i v j=U j:=if_neg h
theorem uU_eq (i:Nat) (v:Value):updU U i v i=v:=if_pos rfl
theorem sL_ne {i j:Nat} (h:j≠i):setL L i j=L j:=if_neg h
theorem Sh8.upd (h:Sh8 w0 tb s u g0 g1 T X sA sn sc tA tn tc xs x ts L U W) (i:Nat) (v:Value) (hv:sh8V tb s u sA sn sc tA tn tc x i=some v):Sh8 w0 tb s u g0 g1 T X sA sn sc tA tn tc xs x ts (setL L i) (updU U i v) W:=by
 have h7:(7:Nat)≠i:=by rintro rfl;cases hv
 have h8:(8:Nat)≠i:=by rintro rfl;cases hv
 have h15:(15:Nat)≠i:=by rintro rfl;cases hv
 have h16:(16:Nat)≠i:=by rintro rfl;cases hv
 have h19:(19:Nat)≠i:=by rintro rfl;cases hv
 have h22:(22:Nat)≠i:=by rintro rfl;cases hv
 have up:∀ j,L j=true->setL L i j=true:=fun j hj=>by
  unfold setL
  split
  ·rfl
  ·exact hj
 refine⟨fun j w hj hL=>?_,h.kp,h.low,?_,?_,?_,?_,?_,?_,?_,?_,?_,?_⟩
 ·by_cases e:j=i
  ·subst e
   rw [uU_eq]
   rw [hv] at hj
   injection hj
  ·rw [uU_ne e]
   rw [sL_ne e] at hL
   exact h.st j w hj hL
 ·rw [sL_ne h19]
  exact fun hL=>⟨up _ (h.o19 hL).1,up _ (h.o19 hL).2.1,up _ (h.o19 hL).2.2.1,up _ (h.o19 hL).2.2.2⟩
 ·rw [sL_ne h19,sL_ne h22]
  exact h.o22
 ·rw [sL_ne h19]
  exact h.tbk
 ·rw [sL_ne h19,sL_ne h22,uU_ne h8,uU_ne h16]
  exact h.v19
 ·rw [sL_ne h7,uU_ne h7]
  exact h.v7
 ·rw [sL_ne h8]
  exact h.s0
 ·rw [sL_ne h8,sL_ne h16,uU_ne h8,uU_ne h16]
  exact h.v8
 ·rw [sL_ne h15,uU_ne h15]
  exact h.v15
 ·rw [sL_ne h16]
  exact h.t0
 ·rw [sL_ne h16,uU_ne h16]
  exact h.v16
theorem Sh8.below (h:Sh8 w0 tb s u g0 g1 T X sA sn sc tA tn tc xs x ts L U W) (h0:Sh80 w0 tb X sA tA x) (hb:Below W W W'):Sh8 w0 tb s u g0 g1 T X sA sn sc tA tn tc xs x ts L U W':=by
 refine⟨h.st,h.kp.below hb,h.low.trans (hb.mono (Nat.le_trans (Nat.le_of_lt h0.tl) h.kp.1)),h.o19,h.o22,fun e=>(h.tbk e).below hb (h.tbk e).lt,fun e=>(h.v19 e).below hb (h.v19 e).lt,fun e=>?_,fun e=>(h.s0 e).kept (Kept.of _ hb),fun e=>?_,fun e=>?_,fun e=>(h.t0 e).kept fun q hq=>hb.block q ((h.t0 e).lt q hq).2,fun e=>?_⟩
 ·obtain⟨b,h1,h2,h3⟩:=h.v7 e
  exact⟨b,h1,h2,h3.below hb h3.lt⟩
 ·obtain⟨A',c',h1,h2⟩:=h.v8 e
  exact⟨A',c',h1,h2.kept (Kept.of _ hb)⟩
 ·obtain⟨b,h1,h2,h3⟩:=h.v15 e
  exact⟨b,h1,h2,h3.below hb h3.lt⟩
 ·obtain⟨A',c',h1,h2,h3⟩:=h.v16 e
  exact⟨A',c',h1,h2.kept (fun q hq=>hb.block q (h2.lt q hq).2),h3⟩
theorem Sh8.s7 (h:Sh8 w0 tb s u g0 g1 T X sA sn sc tA tn tc xs x ts L U W) (h0:Sh80 w0 tb X sA tA x):Sh8 w0 tb s u g0 g1 T X sA sn sc tA tn tc xs x ts (setL L 7) (updU U 7 (.slice (some ⟨W.heap.size,0,none⟩) 1 1)) (W.alloc (.cells x.cells.toArray 47)):=by
 have hz:=h.kp.1
 have h:=h.below h0 (W':=W.alloc (.cells x.cells.toArray 47)) ((Below.refl _ _).alloc (Nat.le_refl _) _)
 refine⟨fun j w hj hL=>?_,h.kp,h.low,?_,h.o22,h.tbk,h.v19,fun _=>⟨_,uU_eq _ _,hz,Blk.new _ _ _⟩,h.s0,h.v8,h.v15,h.t0,h.v16⟩
 ·by_cases e:j=7
  ·subst e;cases hj
  ·rw [uU_ne e]
   rw [sL_ne e] at hL
   exact h.st j w hj hL
 ·exact h.o19
theorem Sh8.s15 (h:Sh8 w0 tb s u g0 g1 T X sA sn sc tA tn tc xs x ts L U W) (h0:Sh80 w0 tb X sA tA x):Sh8 w0 tb s u g0 g1 T X sA sn sc tA tn tc xs x ts (setL L 15) (updU U 15 (.slice (some ⟨W.heap.size,0,none⟩) 1 1)) (W.alloc (.cells #[.int .i64 (u:Nat)] 3)):=by
 have hz:=h.kp.1
 have h:=h.below h0 (W':=W.alloc (.cells #[.int .i64 (u:Nat)] 3)) ((Below.refl _ _).alloc (Nat.le_refl _) _)
 refine⟨fun j w hj hL=>?_,h.kp,h.low,?_,h.o22,h.tbk,h.v19,h.v7,h.s0,h.v8,fun _=>⟨_,uU_eq _ _,hz,Blk.new _ _ _⟩,h.t0,h.v16⟩
 ·by_cases e:j=15
  ·subst e;cases hj
  ·rw [uU_ne e]
   rw [sL_ne e] at hL
   exact h.st j w hj hL
 ·exact h.o19
theorem Sh8.s8 (h:Sh8 w0 tb s u g0 g1 T X sA sn sc tA tn tc xs x ts L U W) (h0:Sh80 w0 tb X sA tA x) (hL:L 8=false) {A':O} {c':Nat} (hs:SentIs W' (tb+1) (fun b=>(X b/\some b≠ob tA)\/ob A'=some b) A' (sn+1) c' (xs++[x])) (hg:W.grownBy W' (ob sA)) (ha:ob A'=ob sA\/ob A'=some W.heap.size) :
 Sh8 w0 tb s u g0 g1 T X sA sn sc tA tn tc xs x ts (setL L 8) (updU U 8 (.slice A' (sn+1) c')) W':=by
 have hz:=h.kp.1
 have h19:L 19=false:=by
  cases e:L 19 with
  | false=>rfl
  | true=>rw [(h.o19 e).2.2.1] at hL;cases hL
 have s0:=h.s0 hL
 have sX:∀ b,ob sA=some b->X b/\some b≠ob tA:=s0.2.2
 have hk:Kept (fun b=>some b≠ob sA) W W':=⟨hg.size,fun b h1 h2=>hg.block b h2 h1⟩
 refine⟨fun j w hj hLj=>?_,h.kp.grown hg fun k hk=>.inl fun e=>e.1.elim (fun n=>n (sX k hk).1) fun n=>n.2 hk.symm,h.low.trans (below_grown hg (fun b hb=>by have:=(h0.Xt b (sX b hb).1).1;omega) (by have:=h0.tl;omega)),fun e=>(by rw [show setL L 8 19=L 19 from rfl,h19] at e;cases e),h.o22,fun e=>(h.tbk e).grown hg fun e=>by have:=h0.Xt tb (sX tb e.symm).1;omega,fun e=>(by rw [show setL L 8 19=L 19 from rfl,h19] at e;cases e),fun e=>?_,fun e=>(by cases e),fun _=>⟨A',c',uU_eq _ _,hs.mono fun b hb q=>?_⟩,fun e=>?_,fun e=>(h.t0 e).kept fun q hq=>hg.block q ((h.t0 e).lt q hq).2 fun e=>(sX q e.symm).2 hq.symm,fun e=>?_⟩
 ·by_cases e:j=8
  ·subst e;cases hj
  ·rw [uU_ne e]
   exact EY20
 ·obtain⟨b,h1,h2,h3⟩:=h.v7 e
  exact⟨b,h1,h2,h3.grown hg fun e=>by have:=h0.Xt b (sX b e.symm).1;omega⟩
 ·rcases q with q|q
  ·refine⟨.inl q.1,q.2,fun e16=>?_⟩
   obtain⟨A2,c2,h1,h2,h3⟩:=h.v16 e16
   show some b≠(U 16).ownBlock
   rw [h1,ownBlock_slice]
   intro e
   rcases h3 b e.symm with e2|e2
   ·exact q.2 e2.symm
   ·have:=(h0.Xt b q.1).2;omega
  ·rcases ha with ha|ha
   ·obtain⟨x1,x2⟩:=sX b (ha▸q)
    refine⟨.inl x1,x2,fun e16=>?_⟩
    obtain⟨A2,c2,h1,h2,h3⟩:=h.v16 e16
    show some b≠(U 16).ownBlock
    rw [h1,ownBlock_slice]
    intro e
    rcases h3 b e.symm with e2|e2
    ·exact x2 e2.symm
    ·have:=(h0.Xt b x1).2;omega
   ·have eb:b=W.heap.size:=by rw [ha] at q;injection q with q;exact q.symm
    subst eb
    refine⟨.inr hz,fun e=>?_,fun e16=>?_⟩
    ·have:=(h0.Xt _ (h0.tX _ e.symm)).2;omega
    ·obtain⟨A2,c2,h1,h2,h3⟩:=h.v16 e16
     show some W.heap.size≠(U 16).ownBlock
     rw [h1,ownBlock_slice]
     intro e
     have:=(h2.lt _ e.symm).2
     omega
 ·obtain⟨b,h1,h2,h3⟩:=h.v15 e
  exact⟨b,h1,h2,h3.grown hg fun e=>by have:=h0.Xt b (sX b e.symm).1;omega⟩
 ·obtain⟨A2,c2,h1,h2,h3⟩:=h.v16 e
  refine⟨A2,c2,h1,h2.kept fun q hq=>hg.block q (h2.lt q hq).2 fun e=>?_,h3⟩
  rcases h3 q hq with e2|e2
  ·exact (sX q e.symm).2 e2.symm
  ·have:=(h0.Xt q (sX q e.symm).1).2;omega
theorem Sh8.s16 (h:Sh8 w0 tb s u g0 g1 T X sA sn sc tA tn tc xs x ts L U W) (h0:Sh80 w0 tb X sA tA x) (hL:L 16=false) {A':O} {c':Nat} (ht:ToIs W' (tb+1) A' (tn+1) c' (ts++[u])) (hg:W.grownBy W' (ob tA)) (ha:ob A'=ob tA\/ob A'=some W.heap.size) :
 Sh8 w0 tb s u g0 g1 T X sA sn sc tA tn tc xs x ts (setL L 16) (updU U 16 (.slice A' (tn+1) c')) W':=by
 have hz:=h.kp.1
 have h19:L 19=false:=by
  cases e:L 19 with
  | false=>rfl
  | true=>rw [(h.o19 e).2.2.2] at hL;cases hL
 have hk:Kept (fun b=>some b≠ob tA) W W':=⟨hg.size,fun b h1 h2=>hg.block b h2 h1⟩
 have tX:=h0.tX
 refine⟨fun j w hj hLj=>?_,h.kp.grown hg fun k hk=>.inl fun e=>e.1.elim (fun n=>n (tX k hk)) fun n=>n.1 hk.symm,h.low.trans (below_grown hg (fun b hb=>by have:=(h0.Xt b (tX b hb)).1;omega) (by have:=h0.tl;omega)),fun e=>(by rw [show setL L 16 19=L 19 from rfl,h19] at e;cases e),h.o22,fun e=>(h.tbk e).grown hg fun e=>by have:=h0.Xt tb (tX tb e.symm);omega,fun e=>(by rw [show setL L 16 19=L 19 from rfl,h19] at e;cases e),fun e=>?_,fun e=>(h.s0 e).kept (hk.mono fun b _ q=>q.2),fun e=>?_,fun e=>?_,fun e=>(by cases e),fun _=>⟨A',c',uU_eq _ _,ht,fun b hb=>?_⟩⟩
 ·by_cases e:j=16
  ·subst e;cases hj
  ·rw [uU_ne e]
   exact EY20
 ·obtain⟨b,h1,h2,h3⟩:=h.v7 e
  exact⟨b,h1,h2,h3.grown hg fun e=>by have:=h0.Xt b (tX b e.symm);omega⟩
 ·obtain⟨A2,c2,h1,h2⟩:=h.v8 e
  refine⟨A2,c2,h1,((h2.mono (S':=fun b=>((X b\/w0.heap.size<=b)/\some b≠ob tA)/\b<W) fun b hb q=>⟨⟨q.1,q.2.1⟩,hb⟩).kept (hk.mono fun b _ q=>q.1.2)).mono fun b _ q=>⟨q.1.1,q.1.2,fun _=>?_⟩⟩
  show some b≠(updU U 16 (.slice A' (tn+1) c') 16).ownBlock
  rw [uU_eq,ownBlock_slice]
  exact at_most ha q.2 q.1.2
 ·obtain⟨b,h1,h2,h3⟩:=h.v15 e
  exact⟨b,h1,h2,h3.grown hg fun e=>by have:=h0.Xt b (tX b e.symm);omega⟩
 ·rcases ha with ha|ha
  ·exact .inl (ha▸hb)
  ·right
   rw [ha] at hb
   injection hb with hb
   omega
theorem Sh8.s19 (h:Sh8 w0 tb s u g0 g1 T X sA sn sc tA tn tc xs x ts L U W) (h0:Sh80 w0 tb X sA tA x) (hL:L 19=false) (hl:L 5=true/\L 12=true/\L 8=true/\L 16=true) (v:Value):Sh8 w0 tb s u g0 g1 T X sA sn sc tA tn tc xs x ts (setL L 19) (updU U 19 v) (W.setCell ⟨tb,3,none⟩ (U 8)):=by
 have h22:L 22=false:=by
  cases e:L 22 with
  | false=>rfl
  | true=>rw [h.o22 e] at hL;cases hL
 have hz:=h.kp.1
 have ht:=h.tbk hL
 have hk:Kept (fun b=>b≠tb) W (W.setCell ⟨tb,3,none⟩ (U 8)):=(Kept.refl _ _).set_ ⟨tb,3,none⟩ (.inl fun e=>e rfl) _
 have hX:∀ b,X b\/w0.heap.size<=b->b≠tb:=fun b hb e=>by
  have:=h0.tl
  rcases hb with hb|hb
  ·have:=h0.Xt b hb;omega
  ·omega
 refine⟨fun j w hj hLj=>?_,h.kp.set_ _ (.inl fun e=>e.2 rfl) _,h.low.setCell (p:=⟨tb,3,none⟩) (Nat.le_refl _) _,fun _=>hl,fun e=>rfl,fun e=>(by cases e),fun _=>?_,fun e=>?_,fun e=>(by rw [show setL L 19 8=L 8 from rfl,hl.2.2.1] at e;cases e),fun e=>?_,fun e=>?_,fun e=>(by rw [show setL L 19 16=L 16 from rfl,hl.2.2.2] at e;cases e),fun e=>?_⟩
 ·by_cases e:j=19
  ·subst e;cases hj
  ·rw [uU_ne e]
   exact EY20
 ·rw [if_neg (show ¬ setL L 19 22=true from by rw [show setL L 19 22=L 22 from rfl,h22];decide)]
  exact ht.set_ 3 _
 ·obtain⟨b,h1,h2,h3⟩:=h.v7 e
  exact EY18
 ·obtain⟨A2,c2,h1,h2⟩:=h.v8 e
  exact⟨A2,c2,h1,h2.kept (hk.mono fun b _ q=>hX b q.1)⟩
 ·obtain⟨b,h1,h2,h3⟩:=h.v15 e
  exact EY18
 ·obtain⟨A2,c2,h1,h2,h3⟩:=h.v16 e
  exact EY23
theorem Sh8.s22 (h:Sh8 w0 tb s u g0 g1 T X sA sn sc tA tn tc xs x ts L U W) (h0:Sh80 w0 tb X sA tA x) (hL:L 19=true) (hl:L 22=false) (v:Value):Sh8 w0 tb s u g0 g1 T X sA sn sc tA tn tc xs x ts (setL L 22) (updU U 22 v) (W.setCell ⟨tb,4,none⟩ (U 16)):=by
 have hz:=h.kp.1
 have ht:=h.v19 hL
 have hh:=h.o19 hL
 have hk:Kept (fun b=>b≠tb) W (W.setCell ⟨tb,4,none⟩ (U 16)):=(Kept.refl _ _).set_ ⟨tb,4,none⟩ (.inl fun e=>e rfl) _
 have hX:∀ b,X b\/w0.heap.size<=b->b≠tb:=fun b hb e=>by
  have:=h0.tl
  rcases hb with hb|hb
  ·have:=h0.Xt b hb;omega
  ·omega
 refine⟨fun j w hj hLj=>?_,h.kp.set_ _ (.inl fun e=>e.2 rfl) _,h.low.setCell (p:=⟨tb,4,none⟩) (Nat.le_refl _) _,fun _=>hh,fun e=>hL,fun e=>(by rw [show setL L 22 19=L 19 from rfl,hL] at e;cases e),fun _=>?_,fun e=>?_,fun e=>(by rw [show setL L 22 8=L 8 from rfl,hh.2.2.1] at e;cases e),fun e=>?_,fun e=>?_,fun e=>(by rw [show setL L 22 16=L 16 from rfl,hh.2.2.2] at e;cases e),fun e=>?_⟩
 ·by_cases e:j=22
  ·subst e;cases hj
  ·rw [uU_ne e]
   exact EY20
 ·rw [if_pos (show setL L 22 22=true from rfl)]
  rw [if_neg (by rw [hl];decide)] at ht
  exact ht.set_ 4 _
 ·obtain⟨b,h1,h2,h3⟩:=h.v7 e
  exact EY18
 ·obtain⟨A2,c2,h1,h2⟩:=h.v8 e
  exact⟨A2,c2,h1,h2.kept (hk.mono fun b _ q=>hX b q.1)⟩
 ·obtain⟨b,h1,h2,h3⟩:=h.v15 e
  exact EY18
 ·obtain⟨A2,c2,h1,h2,h3⟩:=h.v16 e
  exact EY23
end
def MailsIs (w:World) (B:Nat) (S:Nat->Prop) (A:O) (n c:Nat) (xs:List MsgX):Prop:=
 w.ownsRow B 30 17 (.slice A n c) n (xs.flatMap (·.cells))/\(∀ x∈xs,x.cells.length=17/\MailIs w (fun b=>S b/\some b≠ob A) x.cells.toArray x.m/\x.m.Ok)/\∀ g,ob A=some g->S g
section
variable {w w':World} {B:Nat} {S S':Nat->Prop} {A:O} {n c:Nat} {xs:List MsgX}
theorem MailsIs.lt (h:MailsIs w B S A n c xs):∀ g,ob A=some g->B<=g/\g<w:=fun g hg=>h.1.lt g (by rw [ownBlock_slice];exact hg)
theorem MailsIs.kept (h:MailsIs w B S A n c xs) (hk:Kept S w w'):MailsIs w' B S A n c xs:=
 ⟨ownsRow_keep h.1 fun g hg=>by rw [ownBlock_slice] at hg;exact hk.2 g (h.2.2 g hg) (h.lt g hg).2,fun x hx=>⟨(h.2.1 x hx).1,(h.2.1 x hx).2.1.kept (hk.mono fun b _ y=>y.1),(h.2.1 x hx).2.2⟩,h.2.2⟩
theorem MailsIs.mono (h:MailsIs w B S A n c xs) (hi:∀ b,b<w.heap.size->S b->S' b):MailsIs w B S' A n c xs:=
 ⟨h.1,fun x hx=>⟨(h.2.1 x hx).1,(h.2.1 x hx).2.1.mono fun b hb y=>⟨hi b hb y.1,y.2⟩,(h.2.1 x hx).2.2⟩,fun g hg=>hi g (h.lt g hg).2 (h.2.2 g hg)⟩
theorem MailsIs.msgs (h:MailsIs w B S A n c xs):MsgsIs w S A n xs/\n<=c:=by
 exact EY9
theorem MailsIs.nil_ (w:World) (B:Nat) (S:Nat->Prop):MailsIs w B S none 0 0 []:=⟨World.ownsRow_nil _ _ _ _,fun x hx=>absurd hx (by simp),fun g hg=>by simp [ob] at hg⟩
end
theorem Try.infoMail:(prog.info? 30).map (fun i=>(i.zero,i.size,i.bytes))=some (some (.agg noMail),17,208):=by kernel_rfl
theorem run_append_mail {w:World} {B:Nat} {S:Nat->Prop} {A A2:O} {n c c2:Nat} {xs:List MsgX} {x:MsgX} (ty:TypeId) (h:MailsIs w B S A n c xs) (hr:Reads w w.heap.size 17 A2 1 x.cells) (h17:x.cells.length=17) (hx:MailIs w (fun b=>S b/\some b≠ob A) x.cells.toArray x.m) (hok:x.m.Ok) (hn:n<=4096) (hB:B<=w) :
 ∃ A' c' w',(Builtin.append_ #[72,72] ty #[.slice A n c,.slice A2 1 c2]).run prog w=.ok (.slice A' (n+1) c') w'/\MailsIs w' B (fun b=>S b\/ob A'=some b) A' (n+1) c' (xs++[x])/\w.grownBy w' (ob A)/\(ob A'=ob A\/ob A'=some w.heap.size):=by
 obtain⟨h1,hv,hs⟩:=h
 obtain⟨i0,hi,hz0,hz1,hz2⟩:=info_parts Try.infoMail
 have hone:∀ u∈x.cells,u.oneCell'=true:=by
  obtain⟨eA,en,ec,hA,hn,hc,oA,on,oc,pA,pn,pc,e,_⟩:=hx
  have h1:x.cells.toArray.all (·.oneCell')=true:=by rw [e];exact mailC_one
  simpa using h1
 obtain⟨v',w',hrun,ho,hg,hb⟩:=run_append_any (P:=prog) w B 72 ty 30 i0 _ 17 208 underlying72 hi hz0 hz1 hz2 rfl (by omega) (.slice A n c) n (xs.flatMap (·.cells)) h1 w.heap.size A2 1 c2 x.cells hr hone (by unfold maxLen;omega) (by omega) hB
 rw [ownBlock_slice] at hg hb
 obtain⟨A',c',rfl,_⟩:=own_slice ho
 rw [ownBlock_slice] at hb
 have hk:Kept (fun b=>some b≠ob A) w w':=⟨hg.size,fun b h1 h2=>hg.block b h2 h1⟩
 refine⟨A',c',w',hrun,⟨by rw [List.flatMap_append];simpa using ho,fun y hy=>?_,fun g hg=>.inr hg⟩,hg,hb⟩
 have key:∀ y:MsgX,MailIs w (fun b=>S b/\some b≠ob A) y.cells.toArray y.m->MailIs w' (fun b=>(S b\/ob A'=some b)/\some b≠ob A') y.cells.toArray y.m:=fun y hy=>
  ((hy.mono (S':=fun b=>some b≠ob A/\(S b/\b<w)) fun b hb q=>⟨q.2,q.1,hb⟩).kept (hk.mono fun b _ q=>q.1)).mono fun b _ q=>⟨.inl q.2.1,at_most hb q.2.2 q.1⟩
 rcases List.mem_append.1 hy with hy|hy
 ·exact⟨(hv y hy).1,key y (hv y hy).2.1,(hv y hy).2.2⟩
 ·rw [List.mem_singleton] at hy
  subst hy
  exact⟨h17,key y hx,hok⟩
theorem LaneIs.mono_ {w:World} {S S':Nat->Prop} {b:Nat} {l:LaneC} (h:LaneIs w S b l) (hi:∀ b,b<w.heap.size->S b->S' b):LaneIs w S' b l:=by
 obtain⟨oA,on,oc,h1,h2⟩:=h
 exact⟨oA,on,oc,h1,h2.mono hi⟩
def Fs (Yb:Nat->Prop) (lb:Nat) (sA:O):Nat->Prop:=fun q=>¬ Yb q/\q≠lb/\some q≠ob sA
structure En (W w:World) (B b5 ga gb lb:Nat) (Ya Yb:Nat->Prop) (k:Nat) (A:List OpC) (e:Int) (b:List OpC) (ft:Int) (l:LaneC) (oA:O) (oc:Nat) (sA:O) (sc:Nat) (xs:List MsgX) (r:RchC) (jA:O) (jn jc:Nat):Prop where
 low:Below W W w
 big:W.heap.size<=B/\B<=w
 box:Blk w b5 32 #[.int .i64 r.n,.int .i64 r.e,.slice jA jn jc]
 rch:IntIs w (Fs Yb lb sA) jA jn jc r.holes
 la:LedIs w B ga Ya k A e
 lo:LedIs w B gb Yb k b ft
 f5:Fs Yb lb sA b5
 fY:∀ q,Ya q->Fs Yb lb sA q
 ops:OpsIs w (Fs Yb lb sA) oA A.length oc A
 lane:LaneIs w (Fs Yb lb sA) lb l
 lbB:B<=lb/\¬ Yb lb/\some lb≠ob sA
 sent:MailsIs w B (fun q=>¬ Yb q/\q≠lb) sA xs.length sc xs
section
variable {W w w':World} {B b5 ga gb lb:Nat} {Ya Yb:Nat->Prop} {k:Nat} {A:List OpC} {e:Int} {b:List OpC} {ft:Int} {l:LaneC} {oA:O} {oc:Nat} {sA:O} {sc:Nat} {xs:List MsgX} {r:RchC} {jA:O} {jn jc:Nat}
theorem En.below (h:En W w B b5 ga gb lb Ya Yb k A e b ft l oA oc sA sc xs r jA jn jc) (hb:Below w w w'):En W w' B b5 ga gb lb Ya Yb k A e b ft l oA oc sA sc xs r jA jn jc:=
 ⟨h.low.trans (hb.mono h.low.size),⟨h.big.1,Nat.le_trans h.big.2 hb.size⟩,h.box.below hb h.box.lt,h.rch.below hb,h.la.below hb,h.lo.below hb,h.f5,h.fY,h.ops.below hb,h.lane.below hb,h.lbB,h.sent.kept (Kept.of _ hb)⟩
theorem En.free (h:En W w B b5 ga gb lb Ya Yb k A e b ft l oA oc sA sc xs r jA jn jc):∀ q,w.heap.size<=q->Fs Yb lb sA q:=fun q hq=>
 ⟨fun hy=>by have:=(h.lo.1 q hy).2;omega,fun e=>by have:=h.lane.lt;omega,fun e=>by have:=(h.sent.lt q e.symm).2;omega⟩
theorem En.keep (h:En W w B b5 ga gb lb Ya Yb k A e b ft l oA oc sA sc xs r jA jn jc) {Yb':Nat->Prop} {sA':O} (hk:Kept (Fs Yb lb sA) w w') (hi:∀ q,q<w.heap.size->Fs Yb lb sA q->Fs Yb' lb sA' q) :
 Blk w' b5 32 #[.int .i64 r.n,.int .i64 r.e,.slice jA jn jc]/\IntIs w' (Fs Yb' lb sA') jA jn jc r.holes/\LedIs w' B ga Ya k A e/\Fs Yb' lb sA' b5/\(∀ q,Ya q->Fs Yb' lb sA' q)/\OpsIs w' (Fs Yb' lb sA') oA A.length oc A:=by
 have hm:∀ q,q<w'.heap.size->(Fs Yb lb sA q/\q<w)->Fs Yb' lb sA' q:=fun q _ y=>hi q y.2 y.1
 have hk2:Kept (fun q=>Fs Yb lb sA q/\q<w) w w':=hk.mono fun q _ y=>y.1
 exact⟨(hk.2 b5 h.f5 h.box.lt).trans h.box,((h.rch.mono (S':=fun q=>Fs Yb lb sA q/\q<w) fun q hq y=>⟨y,hq⟩).kept hk2).mono hm,h.la.kept (hk.mono fun q _ y=>h.fY q y),hi b5 h.box.lt h.f5,fun q hq=>hi q (h.la.1 q hq).2 (h.fY q hq),((h.ops.mono (S':=fun q=>Fs Yb lb sA q/\q<w) fun q hq y=>⟨y,hq⟩).kept hk2).mono hm⟩
theorem En.apply (h:En W w B b5 ga gb lb Ya Yb k A e b ft l oA oc sA sc xs r jA jn jc) {wm:World} (hb:Below w w wm) {b':List OpC} {ft':Int} {k':Nat} (hk':k<=k') (ha:Acted B gb Yb k' b' ft' wm w'):En W w' B b5 ga gb lb Ya (New Yb wm w') k' A e b' ft' l oA oc sA sc xs r jA jn jc:=by
 have h:=h.below hb
 obtain⟨a1,a2,a3⟩:=ha
 have hlane:=h.lane
 have hn:∀ q,q<wm.heap.size->¬ Yb q->¬ New Yb wm w' q:=fun q hq hy hn=>hn.elim hy fun hn=>by omega
 have hi:∀ q,q<wm.heap.size->Fs Yb lb sA q->Fs (New Yb wm w') lb sA q:=fun q hq y=>⟨hn q hq y.1,y.2⟩
 obtain⟨k1,k2,k3,k4,k5,k6⟩:=h.keep (a2.mono fun q _ y=>y.1) hi
 refine⟨h.low.trans (a3.mono h.big.1),⟨h.big.1,Nat.le_trans h.big.2 a2.1⟩,k1,k2,k3.more hk',a1,k4,k5,k6,?_,⟨h.lbB.1,hn lb hlane.lt h.lbB.2.1,h.lbB.2.2⟩,?_⟩
 ·refine LaneIs.mono_ ((LaneIs.mono_ hlane (S':=fun q=>Fs Yb lb sA q/\q<wm) fun q hq y=>⟨y,hq⟩).kept (a2.mono fun q _ y=>y.1.1) (a2.2 lb h.lbB.2.1 hlane.lt)) fun q _ y=>hi q y.2 y.1
 ·exact ((h.sent.mono (S':=fun q=>(¬ Yb q/\q≠lb)/\q<wm) fun q hq y=>⟨y,hq⟩).kept (a2.mono fun q _ y=>y.1.1)).mono fun q _ y=>⟨hn q y.2 y.1.1,y.1.2⟩
theorem En.take (h:En W w B b5 ga gb lb Ya Yb k A e b ft l oA oc sA sc xs r jA jn jc) {wm:World} (hb:Below w w wm) {l':LaneC} (hl:LaneIs w' (Fs Yb lb sA) lb l') (ht:Turn lb wm w'):En W w' B b5 ga gb lb Ya Yb k A e b ft l' oA oc sA sc xs r jA jn jc:=by
 have h:=h.below hb
 have hk:Kept (fun q=>q≠lb) wm w':=ht.kept (S:=fun q=>q≠lb) fun e=>e rfl
 obtain⟨k1,k2,k3,k4,k5,k6⟩:=h.keep (hk.mono fun q _ y=>y.2.1) fun q _ y=>y
 exact⟨h.low.trans (ht.2.mono (Nat.le_trans h.big.1 h.lbB.1)),⟨h.big.1,Nat.le_trans h.big.2 ht.size⟩,k1,k2,k3,h.lo.kept (hk.mono fun q _ y e=>h.lbB.2.1 (e▸y)),k4,k5,k6,hl,h.lbB,h.sent.kept (hk.mono fun q _ y=>y.2)⟩
theorem En.more (h:En W w B b5 ga gb lb Ya Yb k A e b ft l oA oc sA sc xs r jA jn jc) {sA':O} {sc':Nat} {x:MsgX} (hs:MailsIs w' B (fun q=>(¬ Yb q/\q≠lb)\/ob sA'=some q) sA' (xs.length+1) sc' (xs++[x])) (hg:w.grownBy w' (ob sA)) (ha:ob sA'=ob sA\/ob sA'=some w.heap.size) :
 En W w' B b5 ga gb lb Ya Yb k A e b ft l oA oc sA' sc' (xs++[x]) r jA jn jc:=by
 have hlane:=h.lane
 have hk:Kept (fun q=>some q≠ob sA) w w':=⟨hg.size,fun q h1 h2=>hg.block q h2 h1⟩
 have hi:∀ q,q<w.heap.size->Fs Yb lb sA q->Fs Yb lb sA' q:=fun q hq y=>⟨y.1,y.2.1,at_most ha hq y.2.2⟩
 have hsa:∀ q,ob sA'=some q->¬ Yb q/\q≠lb:=fun q hq=>by
  rcases ha with ha|ha
  ·exact h.sent.2.2 q (ha▸hq)
  ·rw [ha] at hq
   injection hq with hq
   subst hq
   exact⟨fun hy=>by have:=(h.lo.1 _ hy).2;omega,fun e=>by have:=hlane.lt;omega⟩
 obtain⟨k1,k2,k3,k4,k5,k6⟩:=h.keep (hk.mono fun q _ y=>y.2.2) hi
 refine⟨h.low.trans (below_grown hg (fun q hq=>by have:=(h.sent.lt q hq).1;have:=h.big.1;omega) (Nat.le_trans h.big.1 h.big.2)),⟨h.big.1,Nat.le_trans h.big.2 hg.size⟩,k1,k2,k3,h.lo.kept (hk.mono fun q _ y e=>(h.sent.2.2 q e.symm).1 y),k4,k5,k6,?_,⟨h.lbB.1,h.lbB.2.1,at_most ha hlane.lt h.lbB.2.2⟩,?_⟩
 ·refine LaneIs.mono_ ((LaneIs.mono_ hlane (S':=fun q=>Fs Yb lb sA q/\q<w) fun q hq y=>⟨y,hq⟩).kept (hk.mono fun q _ y=>y.1.2.2) (hk.2 lb h.lbB.2.2 hlane.lt)) fun q _ y=>hi q y.2 y.1
 ·rw [show (xs++[x]).length=xs.length+1 by simp]
  exact hs.mono fun q _ y=>y.elim id (hsa q)
end
structure TurnC where
 k0:Int
 k1:Int
 k2:Int
 k3:Int
 o:OpC
@[reducible] def turnC (t:TurnC) (hA:O) (hn hc:Nat):Array Value:=#[.int .i64 t.k0,.int .i64 t.k1,.int .i64 t.k2,.int .i64 t.k3,.int .i64 t.o.n,.int .i64 t.o.epoch,.int .i64 t.o.kind,.int .i64 t.o.site,.int .i64 t.o.client,.int .i64 t.o.seq,.string t.o.name,.int .i64 t.o.size,.slice hA hn hc]
structure TurnX where
 cells:List Value
 c:TurnC
instance:Inhabited TurnX:=⟨⟨[],⟨0,0,0,0,⟨0,0,0,0,0,0,⟨#[]⟩,0,[]⟩⟩⟩⟩
def TurnIs (w:World) (S:Nat->Prop) (cells:Array Value) (t:TurnC):Prop:=∃ hA hn hc,cells=turnC t hA hn hc/\StrIs w S hA hn hc t.o.hs
def TurnsIs (w:World) (S:Nat->Prop) (A:O) (n:Nat) (xs:List TurnX):Prop:=
 Reads w w.heap.size 13 A n (xs.flatMap (·.cells))/\∀ x∈xs,x.cells.length=13/\TurnIs w S x.cells.toArray x.c/\x.c.o.Ok
theorem turns_len:∀ (xs:List TurnX),(∀ x∈xs,x.cells.length=13)->(xs.flatMap (·.cells)).length=xs.length*13
 | [],_=>rfl
 | x::l,h=>by
  rw [List.flatMap_cons,List.length_append,turns_len l fun y hy=>h y (List.mem_cons_of_mem _ hy),h x (List.mem_cons_self ..),List.length_cons]
  omega
theorem turns_at:∀ (xs:List TurnX) (k:Nat) (x:TurnX) (j:Nat),(∀ x∈xs,x.cells.length=13)->xs[k]? = some x->j<13->(xs.flatMap (·.cells))[k*13+j]? = x.cells[j]?
 | [],k,x,j,_,h,_=>by simp at h
 | y::l,0,x,j,hl,h,hj=>by
  simp only [List.getElem?_cons_zero,Option.some.injEq] at h
  subst h
  rw [List.flatMap_cons,List.getElem?_append_left (by rw [hl _ (List.mem_cons_self ..)];omega),Nat.zero_mul,Nat.zero_add]
 | y::l,k+1,x,j,hl,h,hj=>by
  rw [List.flatMap_cons,List.getElem?_append_right (by rw [hl _ (List.mem_cons_self ..)];omega),hl _ (List.mem_cons_self ..),show (k+1)*13+j-13=k*13+j by omega]
  exact turns_at l k x j (fun z hz=>hl z (List.mem_cons_of_mem _ hz)) (by simpa using h) hj
section
variable {w w':World} {S S':Nat->Prop} {A:O} {n:Nat} {xs:List TurnX}
theorem TurnIs.below {cells:Array Value} {t:TurnC} (h:TurnIs w S cells t) (hb:Below w w w'):TurnIs w' S cells t:=by
 obtain⟨hA,hn,hc,h0,h1⟩:=h
 exact⟨hA,hn,hc,h0,h1.below hb⟩
theorem TurnIs.mono {cells:Array Value} {t:TurnC} (h:TurnIs w S cells t) (hi:∀ b,b<w.heap.size->S b->S' b):TurnIs w S' cells t:=by
 obtain⟨hA,hn,hc,h0,h1⟩:=h
 exact⟨hA,hn,hc,h0,h1.mono hi⟩
theorem TurnsIs.below (h:TurnsIs w S A n xs) (hb:Below w w w'):TurnsIs w' S A n xs:=
 ⟨(h.1.below hb).more hb.size,fun x hx=>⟨(h.2 x hx).1,(h.2 x hx).2.1.below hb,(h.2 x hx).2.2⟩⟩
theorem TurnsIs.mono (h:TurnsIs w S A n xs) (hi:∀ b,b<w.heap.size->S b->S' b):TurnsIs w S' A n xs:=
 ⟨h.1,fun x hx=>⟨(h.2 x hx).1,(h.2 x hx).2.1.mono hi,(h.2 x hx).2.2⟩⟩
theorem TurnsIs.len (h:TurnsIs w S A n xs):xs.length=n:=by
 have h1:=h.1.1
 rw [turns_len xs fun x hx=>(h.2 x hx).1] at h1
 omega
theorem TurnsIs.at_ (h:TurnsIs w S A n xs) {k:Nat} (hk:k<n):∃ ad x,A=some ad/\xs[k]? = some x/\(∀ j v,x.cells[j]? = some v->w.cell? ((ad.add (k*13)).add j)=some v)/\ad.block<w/\x.cells.length=13/\TurnIs w S x.cells.toArray x.c/\x.c.o.Ok:=by
 have hl:=h.len
 obtain⟨ad,rfl,hb,hc⟩:=h.1.2 (by omega)
 have hx:xs[k]? = some xs[k]:=List.getElem?_eq_getElem (by omega)
 obtain⟨h1,h2,h3⟩:=h.2 xs[k] (List.getElem_mem _)
 refine⟨ad,xs[k],rfl,hx,fun j v hv=>?_,hb,h1,h2,h3⟩
 rw [add_of_add]
 refine hc _ v ?_
 rw [turns_at xs k _ j (fun x hx=>(h.2 x hx).1) hx (by have:=(List.getElem?_eq_some_iff.1 hv).1;omega)]
 exact hv
end
theorem len13 {α:Type} {l:List α} (h:l.length=13):∃ c0 c1 c2 c3 c4 c5 c6 c7 c8 c9 c10 c11 c12,l=[c0,c1,c2,c3,c4,c5,c6,c7,c8,c9,c10,c11,c12]:=by
 match l,h with
 | [c0,c1,c2,c3,c4,c5,c6,c7,c8,c9,c10,c11,c12],_=>exact⟨_,_,_,_,_,_,_,_,_,_,_,_,_,rfl⟩
theorem Try.cTurn:prog.cellsOf 121=13:=by kernel_rfl
theorem Try.bTurn:prog.bytesOf 121=128:=by kernel_rfl
theorem Try.sizeTurn:(prog.info? 121).map (·.size)=some 13:=by kernel_rfl
@[reducible] def noTurn:Array Value:=#[.int .i64 0,.int .i64 0,.int .i64 0,.int .i64 0,.int .i64 0,.int .i64 0,.int .i64 0,.int .i64 0,.int .i64 0,.int .i64 0,.string ⟨#[]⟩,.int .i64 0,.slice none 0 0]
theorem turnC_one {t:TurnC} {hA:O} {hn hc:Nat}:(turnC t hA hn hc).all (·.oneCell')=true:=all_oneCell_toArray (by
 intro v hv
 simp only [List.mem_cons,List.not_mem_nil,or_false] at hv
 rcases hv with rfl|rfl|rfl|rfl|rfl|rfl|rfl|rfl|rfl|rfl|rfl|rfl|rfl<;>rfl)
section
variable {H:Type} {enc:TypeId×Value->H} {w:World} {cs:List Value}
theorem rd_turn (hl:cs.length=13) (hr:Rd H enc prog w 121 cs):∃ c:TurnC,TurnIs w Any cs.toArray c/\c.o.Ok:=by
 obtain⟨_,hf⟩:=hr.struct_ underlying121
 obtain⟨c0,c1,c2,c3,c4,c5,c6,c7,c8,c9,c10,c11,c12,rfl⟩:=len13 hl
 have h0:=fld hf 0 (ty:=3) (off:=0) (by rfl) Try.cInt
 have h1:=fld hf 1 (ty:=3) (off:=1) (by rfl) Try.cInt
 have h2:=fld hf 2 (ty:=3) (off:=2) (by rfl) Try.cInt
 have h3:=fld hf 3 (ty:=3) (off:=3) (by rfl) Try.cInt
 have h4:=fld hf 4 (ty:=45) (off:=4) (by rfl) Try.cOp
 simp only [List.drop,List.take] at h0 h1 h2 h3 h4
 obtain⟨k0,e0,i0⟩:=h0.i64 underlying3
 obtain⟨k1,e1,i1⟩:=h1.i64 underlying3
 obtain⟨k2,e2,i2⟩:=h2.i64 underlying3
 obtain⟨k3,e3,i3⟩:=h3.i64 underlying3
 obtain⟨x,e4,i4,y4⟩:=rd_op rfl h4
 simp only [Opd.cells,OpC.at_,List.cons.injEq,and_true] at e0 e1 e2 e3 e4
 obtain⟨q0,q1,q2,q3,q4,q5,q6,q7,q8⟩:=e4
 subst e0 e1 e2 e3 q0 q1 q2 q3 q4 q5 q6 q7 q8
 exact⟨⟨k0,k1,k2,k3,x.c⟩,⟨x.A,x.n,x.cap,rfl,i4⟩,y4⟩
theorem rd_turns (h:Rd H enc prog w 64 cs):∃ A n c xs,cs=[.slice A n c]/\TurnsIs w Any A n xs/\n<=c/\c*128<=140737488351232/\(A=none->c=0):=by
 obtain⟨A,n,c,xs,h1,h2,h3,h4,h5,h6,h7⟩:=h.list (α:=TurnX) (size:=13) underlying64 Try.cTurn Try.bTurn (by omega) (·.cells) (fun x=>x.cells.length=13/\TurnIs w Any x.cells.toArray x.c/\x.c.o.Ok) (fun cs' hl hr=>by
  obtain⟨m,hm,hok⟩:=rd_turn hl hr
  exact⟨⟨cs',m⟩,rfl,hl,hm,hok⟩)
 exact⟨A,n,c,xs,h1,⟨h2,h7⟩,h4,h5,h6⟩
end
@[reducible] noncomputable def great12F:Func:=Try.f73
section
variable {w:World} {g hn hc:Nat} {o:OpC} {hA:O}
theorem g12_box (hb:Blk w g 47 (cmdC 0 0 0 o hA hn hc 0 0 none 0 0 0)) (Q:Z) (a:Act) (hfr:Fr 62 a [(0,.slice (some ⟨g,0,none⟩) 1 1),(3,.int .i64 0),(8,.slice (some ⟨g,0,none⟩) 1 1),(9,.int .i64 1),(10,.int .i64 0)])
 (hQ:∀ a' w' (b5:Nat),Fr 62 a' [(0,.slice (some ⟨g,0,none⟩) 1 1),(3,.int .i64 0),(5,b5),(8,.slice (some ⟨g,0,none⟩) 1 1),(9,.int .i64 1),(10,.int .i64 0)]->Blk w' b5 47 (cmdC 0 0 0 o hA hn hc 0 0 none 0 0 0)->Below w w w'->Q .normal a' w') :
 (part [1,1,0,1,0,0,1,1,0,0,0] (codeOf great12F)).wp prog Q a w:=by
 have hbk:Blk ((w.alloc (.cells noCmd 47)).setCells w.heap.size 0 (cmdC 0 0 0 o hA hn hc 0 0 none 0 0 0).toList) w.heap.size 47 (cmdC 0 0 0 o hA hn hc 0 0 none 0 0 0):=(Blk.new w 47 noCmd).setCells_ (cmdC 0 0 0 o hA hn hc 0 0 none 0 0 0).toList rfl
 have hb0:Below w w ((w.alloc (.cells noCmd 47)).setCells w.heap.size 0 (cmdC 0 0 0 o hA hn hc 0 0 none 0 0 0).toList):=below_setCells (Nat.le_refl _) ((Below.refl _ _).alloc (Nat.le_refl _) _) _ _
 obtain⟨HR,HT,HK,HB,HQ⟩:=J5 hb.range ((Blk.new w 47 noCmd).there_ 0 16 (by show 0+16<=16;omega)) hbk hb0 hQ
 clear hb hbk hb0 hQ
 refine gg hfr fun t=>?_
 go_wp2_with (first|refine wpList_load_mid rfl 47 (.tmp 12) rfl g 0 rfl _ _ HR.out underlying47 rfl Try.sizeCmd ?_|refine wpList_store_mid rfl 47 (.tmp 5) (.tmp 13) rfl w.heap.size 0 (cmdC 0 0 0 o hA hn hc 0 0 none 0 0 0) rfl rfl HT.out Try.sizeCmd cmdC_one ?_)
 exact HQ.out _ _ _ ff HK.out HB.out
theorem g12_sum {W:World} {b5:Nat} (hb:Blk w b5 47 (cmdC 0 0 0 o hA hn hc 0 0 none 0 0 0)) (hz:hn*16<=140737488351232) (hs:o.name.size<=140737488351232) (hl:Below W W w) {Q:Z} (hret:∀ a' w',bodyPost prog great12F (fun e w'=>(∃ r,e=.returned (.bool r))/\Below W W w') .ret a' w'->Q .ret a' w')
 (a:Act) (hfr:Fr 62 a [(0,.slice (some ⟨g,0,none⟩) 1 1),(3,.int .i64 0),(5,b5),(8,.slice (some ⟨g,0,none⟩) 1 1),(9,.int .i64 1),(10,.int .i64 0)])
 (hQ:∀ a',Fr 62 a' [(0,.slice (some ⟨g,0,none⟩) 1 1),(5,b5),(8,.slice (some ⟨g,0,none⟩) 1 1),(9,.int .i64 1),(10,.int .i64 0)]->Q .normal a' w) :
 (part [1,1,0,1,0,0,1,1,0,0,1,0] (codeOf great12F)).wp prog Q a w:=by
 have c9:=hb.c1 9
 have c11:=hb.c1 11
 have c14:=hb.c1 14
 obtain⟨HQ,HR,HL⟩:=J3 hQ hret hl
 clear hQ hret hb hl
 refine gg hfr fun t=>?_
 by_cases hm:1048576<o.name.size
 ·go_wp2
  all_goals first
   | (refine HR.out _ _ ?_;go_ret;exact⟨⟨_,rfl⟩,HL.out⟩)
   | exact HQ.out _ ff
   | exact HR.out _ _ (bodyPost_ret (results_tmp rfl _ _ _) rfl ⟨⟨_,rfl⟩,HL.out⟩)
 ·go_wp2
  all_goals first
   | (refine HR.out _ _ ?_;go_ret;exact⟨⟨_,rfl⟩,HL.out⟩)
   | exact HQ.out _ ff
   | exact HR.out _ _ (bodyPost_ret (results_tmp rfl _ _ _) rfl ⟨⟨_,rfl⟩,HL.out⟩)
theorem g12_none {b5:Nat} (hb:Blk w b5 47 (cmdC 0 0 0 o hA hn hc 0 0 none 0 0 0)) {Q:Z} (a:Act) (hfr:Fr 62 a [(0,.slice (some ⟨g,0,none⟩) 1 1),(5,b5),(8,.slice (some ⟨g,0,none⟩) 1 1),(9,.int .i64 1),(10,.int .i64 0)])
 (hQ:∀ a',Fr 62 a' [(0,.slice (some ⟨g,0,none⟩) 1 1),(8,.slice (some ⟨g,0,none⟩) 1 1),(9,.int .i64 1),(10,.int .i64 0)]->Q .normal a' w) :
 (part [1,1,0,1,0,0,1,1,0,0,1,1] (codeOf great12F)).wp prog Q a w:=by
 refine Wt ?_
 have r8:∀ (Q:Z),(∀ a',Fr 62 a' [(0,.slice (some ⟨g,0,none⟩) 1 1),(8,.slice (some ⟨g,0,none⟩) 1 1),(9,.int .i64 1),(10,.int .i64 0),(38,.int .i64 0),(39,.int .i64 0)]->Q .normal a' w)->(part [1,1,0,1,0,0,1,1,0,0,1,1,0] (codeOf great12F)).wp prog Q a w:=by
  intro Q hQ
  have c14:=hb.c1 14
  exact EY26
 refine r8 _ fun a1 hf1=>?_
 show (part [1,1,0,1,0,0,1,1,0,0,1,1,1] (codeOf great12F)).wp prog Q a1 w
 refine wp_blk (x:=part [1,1,0,1,0,0,1,1,0,0,1,1,1,0] (codeOf great12F)) (id:=2) kr ?_
 have el:part [1,1,0,1,0,0,1,1,0,0,1,1,1,0] (codeOf great12F)=Code.loop (part [1,1,0,1,0,0,1,1,0,0,1,1,1,0,0] (codeOf great12F)):=by kernel_rfl
 rw [el]
 refine wp_loop_once ?_
 have HQ:=J hQ
 clear hQ hb el r8 hfr
 have hfr:=hf1
 clear hf1
 refine gg hfr fun t=>?_
 go_wp2_with fail
 exact HQ.out _ ff
theorem g12_loop {W:World} (hb:Blk w g 47 (cmdC 0 0 0 o hA hn hc 0 0 none 0 0 0)) (hz:hn*16<=140737488351232) (hs:o.name.size<=140737488351232) (hl:Below W W w) {Q:Z} (hret:∀ a' w',bodyPost prog great12F (fun e w'=>(∃ r,e=.returned (.bool r))/\Below W W w') .ret a' w'->Q .ret a' w')
 (a:Act) (hfr:Fr 62 a [(0,.slice (some ⟨g,0,none⟩) 1 1),(3,.int .i64 0),(8,.slice (some ⟨g,0,none⟩) 1 1),(9,.int .i64 1),(10,.int .i64 0)])
 (hQ:∀ a' w',Fr 62 a' [(0,.slice (some ⟨g,0,none⟩) 1 1)]->Below W W w'->Q .normal a' w') :
 (part [1,1,0,1] (codeOf great12F)).wp prog Q a w:=by
 refine wp_blk (x:=part [1,1,0,1,0] (codeOf great12F)) (id:=0) kr ?_
 have el:part [1,1,0,1,0] (codeOf great12F)=Code.loop (part [1,1,0,1,0,0] (codeOf great12F)):=by kernel_rfl
 rw [el]
 have test:∀ (k:Nat) (Q:Z) (a:Act) (w:World) (v3:Value),Fr 62 a [(0,.slice (some ⟨g,0,none⟩) 1 1),(3,v3),(8,.slice (some ⟨g,0,none⟩) 1 1),(9,.int .i64 1),(10,.int .i64 (k:Nat))]->(∀ a',Fr 62 a' [(0,.slice (some ⟨g,0,none⟩) 1 1),(3,v3),(8,.slice (some ⟨g,0,none⟩) 1 1),(9,.int .i64 1),(10,.int .i64 (k:Nat)),(11,(decide ((k:Int)<1)))]->Q .normal a' w)->(part [1,1,0,1,0,0,0] (codeOf great12F)).wp prog Q a w:=by
  intro k Q a w v3 hfr hQ
  exact EY2
 have out:∀ (Q:Z) (a:Act) (w:World) (v3:Value),Fr 62 a [(0,.slice (some ⟨g,0,none⟩) 1 1),(3,v3),(8,.slice (some ⟨g,0,none⟩) 1 1),(9,.int .i64 1),(10,.int .i64 1)]->(∀ a',Fr 62 a' [(0,.slice (some ⟨g,0,none⟩) 1 1)]->Q (.exit 0) a' w)->(part [1,1,0,1,0,0] (codeOf great12F)).wp prog Q a w:=by
  intro Q a w v3 hfr hQ
  refine Wt ?_
  refine test 1 _ a w v3 hfr fun a1 hf1=>?_
  show (part [1,1,0,1,0,0,1] (codeOf great12F)).wp prog _ a1 w
  refine Wt ?_
  obtain⟨hd,hs,f0,f3,f8,f9,f10,f11,-⟩:=hf1
  refine wp_if (o:=.tmp 11) (x:=part [1,1,0,1,0,0,1,0,0] (codeOf great12F)) (y:=part [1,1,0,1,0,0,1,0,1] (codeOf great12F)) (t:=false) kr (eval_at f11 rfl) (fun h=>by cases h) fun _=>?_
  have e:part [1,1,0,1,0,0,1,0,1] (codeOf great12F)=Code.exit 0:=by kernel_rfl
  rw [e]
  exact wp_exit (hQ a1 ⟨hd,hs,f0,trivial⟩)
 refine wp_loop_rounds 2 ?_
 show (part [1,1,0,1,0,0] (codeOf great12F)).wp prog _ a w
 refine Wt ?_
 refine test 0 _ a w _ hfr fun a1 hf1=>?_
 show (part [1,1,0,1,0,0,1] (codeOf great12F)).wp prog _ a1 w
 refine Wt ?_
 obtain⟨hd,hs1,f0,f3,f8,f9,f10,f11,-⟩:=hf1
 refine wp_if (o:=.tmp 11) (x:=part [1,1,0,1,0,0,1,0,0] (codeOf great12F)) (y:=part [1,1,0,1,0,0,1,0,1] (codeOf great12F)) (t:=true) kr (eval_at f11 rfl) (fun _=>?_) fun h=>by cases h
 refine wp_nop kr ?_
 show (part [1,1,0,1,0,0,1,1] (codeOf great12F)).wp prog _ a1 w
 refine Wt ?_
 refine wp_blk (x:=part [1,1,0,1,0,0,1,1,0,0] (codeOf great12F)) (id:=1) kr ?_
 refine Wt ?_
 refine g12_box hb _ a1 ⟨hd,hs1,f0,f3,f8,f9,f10,trivial⟩ fun a2 w2 b5 hf2 hb2 hl2=>?_
 show (part [1,1,0,1,0,0,1,1,0,0,1] (codeOf great12F)).wp prog _ a2 w2
 have hl':=hl.trans (hl2.mono hl.size)
 refine Wt ?_
 refine g12_sum hb2 hz hs hl' (by exact fun a' w' hq=>hret a' w' hq) a2 hf2 fun a3 hf3=>?_
 show (part [1,1,0,1,0,0,1,1,0,0,1,1] (codeOf great12F)).wp prog _ a3 w2
 refine g12_none hb2 a3 hf3 fun a4 hf4=>?_
 show (part [1,1,0,1,0,0,1,1,1] (codeOf great12F)).wp prog _ a4 w2
 have r15:∀ (Q:Z),(∀ a' v3,Fr 62 a' [(0,.slice (some ⟨g,0,none⟩) 1 1),(3,v3),(8,.slice (some ⟨g,0,none⟩) 1 1),(9,.int .i64 1),(10,.int .i64 1)]->Q .normal a' w2)->(part [1,1,0,1,0,0,1,1,1] (codeOf great12F)).wp prog Q a4 w2:=by
  intro Q hQ
  have HQ:=J hQ
  clear hQ
  refine gg hf4 fun t=>?_
  go_wp2_with fail
  exact HQ.out _ _ ff
 refine r15 _ fun a5 v3 hf5=>?_
 show (part [1,1,0,1,0,0] (codeOf great12F)).wp prog _ a5 w2
 exact out _ a5 w2 v3 hf5 fun a6 hf6=>hQ a6 w2 hf6 hl'
theorem great12_any (hb:Blk w g 47 (cmdC 0 0 0 o hA hn hc 0 0 none 0 0 0)) (hz:hn*16<=140737488351232) (hs:o.name.size<=140737488351232) :
 Calls prog 73 #[.slice (some ⟨g,0,none⟩) 1 1] w fun e w'=>(∃ r,e=.returned (.bool r))/\Below w w w':=by
 have HL:=J (fun (Q:Z) (hret:∀ a' w',bodyPost prog great12F (fun e w'=>(∃ r,e=.returned (.bool r))/\Below w w w') .ret a' w'->Q .ret a' w')=>g12_loop hb hz hs (Below.refl _ w) (Q:=Q) hret)
 clear hb hz hs
 go_enter func73,ntmps73
 conv=>arg 2;arg 2;arg 2;arg 1;arg 2;change part [1,1,0,1] (codeOf great12F)
 go_wp2_with fail
 refine HL.out _ ?_ _ ⟨rfl,rfl,rfl,rfl,rfl,rfl,rfl,trivial⟩ fun a' w' hf hb=>?_
 ·exact fun a' w' hq=>hq
 ·rename_i hK
  have HB:=J hb
  clear hb
  refine hK _ _ ?_
  refine gg hf fun t=>?_
  go_wp2
  go_ret
  exact⟨⟨_,rfl⟩,HB.out⟩
end
end Go.Proofs.Ytaipgdhdfpemcaa
