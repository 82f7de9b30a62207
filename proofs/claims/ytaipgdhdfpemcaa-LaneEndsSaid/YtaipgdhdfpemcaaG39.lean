/- THE WALKS OF THE LANE, part 39. -/
import Derived.Test.YtaipgdhdfpemcaaG28
import Derived.Test.YtaipgdhdfpemcaaG31
namespace Go.Proofs.Ytaipgdhdfpemcaa
set_option linter.all false
open Go.RowKit Go.Proofs.Try
set_option maxRecDepth 100000
set_option maxHeartbeats 4000000
abbrev But (b6 b7:Nat):Nat->Prop:=fun b=>b≠b6/\b≠b7
section
variable {good:Bool} {data:ByteArray} {atE atN commit epoch index kind prev site term whE whN:Int} {ec en hc hn oc on pc pn:Nat} {eA hA oA pA:O} {Q:Z}
section
variable (R:Ending->World->Prop) (hQ:∀ a w,bodyPost prog meetF R .ret a w->Q .ret a w) (B:Nat) (W0:World) (a:Act) (w:World) (b6 b7:Nat) (hfr:Fr 128 a [(6,b6),(7,b7)]) (h6:Blk w b6 30 (mailC kind term index prev commit good eA en ec data hA hn hc epoch site atN atE whN whE oA on oc pA pn pc)) (h7:Blk w b7 47 noCmd) (hne:b6≠b7) (hB6:B<=b6) (hB7:B<=b7) (hb:Below B W0 w)
include R hQ B W0 a w b6 b7 hfr h6 h7 hne hB6 hB7 hb
theorem mret3 (hR:∀ w',Below B W0 w'->Kept (But b6 b7) w w'->R (.returned (.tuple #[.agg (mailC kind term index prev commit good eA en ec data hA hn hc epoch site atN atE whN whE oA on oc pA pn pc),.agg noCmd,.int .i64 0])) w') :
 (part [1,1,0,1,0] (codeOf meetF)).wp prog Q a w:=by
 obtain⟨t,df⟩:=a
 obtain⟨hd,hs,h6,h7,-⟩:=hfr
 simp only at hd hs h6 h7
 subst hd
 rw [eta128 t hs,h6,h7]
 clear hs h6 h7
 refine Wq ?_
 intro K hK
 conv=>arg 2;whnf
 refine wp_region_stores kr (fun i v _=>match i with|0=>v=.agg (mailC kind term index prev commit good eA en ec data hA hn hc epoch site atN atE whN whE oA on oc pA pn pc)|1=>v=.agg noCmd|4=>v=.int .i64 0|_=>True) (fun W=>Blk W b6 30 (mailC kind term index prev commit good eA en ec data hA hn hc epoch site atN atE whN whE oA on oc pA pn pc)/\Blk W b7 47 noCmd/\Below B W0 W/\Kept (But b6 b7) w W) (fun _ _=>True) kr ?hG ?hmono ?hstep ?hend
 case hG=>exact⟨h6.drew,h7.drew,hb.drew,Nat.le_refl _,fun _ _ _=>rfl⟩
 case hmono=>
  intro i v W W' _ hv
  match i with
  | 0|1|2|3|4=>exact hv
  | i+5=>exact hv
 case hstep=>
  intro i o F U W ho hGW hat hoff hp
  have r6:=oo 6 b6
  have r7:=oo 7 b7
  match i with
  | 0=>cases ho;exact wp_load_mid 30 (.tmp 6) rfl b6 0 r6 _ _ hGW.1.range underlying30 rfl Try.sizeMail ⟨_,rfl,rfl,hGW,trivial⟩
  | 1=>cases ho;exact wp_load_mid 47 (.tmp 7) rfl b7 0 r7 _ _ hGW.2.1.range underlying47 rfl Try.sizeCmd ⟨_,rfl,rfl,hGW,trivial⟩
  | 2=>
   cases ho
   have hv0:U 0=.agg (mailC kind term index prev commit good eA en ec data hA hn hc epoch site atN atE whN whE oA on oc pA pn pc):=hp ⟨0,.data⟩ (by simp) rfl
   have ht0:=hat 0 41 kd rfl;refine wp_store_mid 30 (.tmp 6) (.tmp 41) rfl b6 0 (mailC kind term index prev commit good eA en ec data hA hn hc epoch site atN atE whN whE oA on oc pA pn pc) r6 (ht0.trans hv0) (hGW.1.there_ 0 _ (Nat.le_refl _)) Try.sizeMail mailC_one ⟨_,rfl,trivial,⟨?_,?_,?_,?_⟩,trivial⟩
   ·exact hGW.1.setCells_ _ rfl
   ·exact (save_setCells W b6 0 _).blk hGW.2.1 (Ne.symm hne)
   ·exact below_setCells hB6 hGW.2.2.1 _ _
   ·exact hGW.2.2.2.cells _ _ (.inl fun h=>h.1 rfl) _
  | 3=>
   cases ho
   have hv1:U 1=.agg noCmd:=hp ⟨1,.data⟩ (by simp) rfl
   have ht1:=hat 1 42 kd rfl;refine wp_store_mid 47 (.tmp 7) (.tmp 42) rfl b7 0 noCmd r7 (ht1.trans hv1) (hGW.2.1.there_ 0 _ (Nat.le_refl _)) Try.sizeCmd noCmd_one ⟨_,rfl,trivial,⟨?_,?_,?_,?_⟩,trivial⟩
   ·exact (save_setCells W b7 0 _).blk hGW.1 hne
   ·exact hGW.2.1.setCells_ _ rfl
   ·exact below_setCells hB7 hGW.2.2.1 _ _
   ·exact hGW.2.2.2.cells _ _ (.inl fun h=>h.2 rfl) _
  | 4=>cases ho;exact wp_assign' (.const (.int .i64 0)) rfl ⟨_,rfl,rfl,hGW,trivial⟩
  | i+5=>exact absurd ho (by simp)
 case hend=>
  intro U W hGW hV
  have h4:U 4=.int .i64 0:=hV 4 kd
  exact Y19
section
variable (hR:∀ w',Below B W0 w'->Kept (But b6 b7) w w'->R (.returned (.tuple #[.agg (mailC kind term index prev commit good eA en ec data hA hn hc epoch site atN atE whN whE oA on oc pA pn pc),.agg noCmd,.int .i64 1])) w')
include hR
theorem mret7 :
 (part [1,1,1,1,1,0,1,0] (codeOf meetF)).wp prog Q a w:=by
 obtain⟨t,df⟩:=a
 obtain⟨hd,hs,h6,h7,-⟩:=hfr
 simp only at hd hs h6 h7
 subst hd
 rw [eta128 t hs,h6,h7]
 clear hs h6 h7
 refine Wq ?_
 intro K hK
 conv=>arg 2;whnf
 refine wp_region_stores kr (fun i v _=>match i with|0=>v=.agg (mailC kind term index prev commit good eA en ec data hA hn hc epoch site atN atE whN whE oA on oc pA pn pc)|1=>v=.agg noCmd|4=>v=.int .i64 1|_=>True) (fun W=>Blk W b6 30 (mailC kind term index prev commit good eA en ec data hA hn hc epoch site atN atE whN whE oA on oc pA pn pc)/\Blk W b7 47 noCmd/\Below B W0 W/\Kept (But b6 b7) w W) (fun _ _=>True) kr ?hG ?hmono ?hstep ?hend
 case hG=>exact⟨h6.drew,h7.drew,hb.drew,Nat.le_refl _,fun _ _ _=>rfl⟩
 case hmono=>
  intro i v W W' _ hv
  match i with
  | 0|1|2|3|4=>exact hv
  | i+5=>exact hv
 case hstep=>
  intro i o F U W ho hGW hat hoff hp
  have r6:=oo 6 b6
  have r7:=oo 7 b7
  match i with
  | 0=>cases ho;exact wp_load_mid 30 (.tmp 6) rfl b6 0 r6 _ _ hGW.1.range underlying30 rfl Try.sizeMail ⟨_,rfl,rfl,hGW,trivial⟩
  | 1=>cases ho;exact wp_load_mid 47 (.tmp 7) rfl b7 0 r7 _ _ hGW.2.1.range underlying47 rfl Try.sizeCmd ⟨_,rfl,rfl,hGW,trivial⟩
  | 2=>
   cases ho
   have hv0:U 0=.agg (mailC kind term index prev commit good eA en ec data hA hn hc epoch site atN atE whN whE oA on oc pA pn pc):=hp ⟨0,.data⟩ (by simp) rfl
   have ht0:=hat 0 56 kd rfl;refine wp_store_mid 30 (.tmp 6) (.tmp 56) rfl b6 0 (mailC kind term index prev commit good eA en ec data hA hn hc epoch site atN atE whN whE oA on oc pA pn pc) r6 (ht0.trans hv0) (hGW.1.there_ 0 _ (Nat.le_refl _)) Try.sizeMail mailC_one ⟨_,rfl,trivial,⟨?_,?_,?_,?_⟩,trivial⟩
   ·exact hGW.1.setCells_ _ rfl
   ·exact (save_setCells W b6 0 _).blk hGW.2.1 (Ne.symm hne)
   ·exact below_setCells hB6 hGW.2.2.1 _ _
   ·exact hGW.2.2.2.cells _ _ (.inl fun h=>h.1 rfl) _
  | 3=>
   cases ho
   have hv1:U 1=.agg noCmd:=hp ⟨1,.data⟩ (by simp) rfl
   have ht1:=hat 1 57 kd rfl;refine wp_store_mid 47 (.tmp 7) (.tmp 57) rfl b7 0 noCmd r7 (ht1.trans hv1) (hGW.2.1.there_ 0 _ (Nat.le_refl _)) Try.sizeCmd noCmd_one ⟨_,rfl,trivial,⟨?_,?_,?_,?_⟩,trivial⟩
   ·exact (save_setCells W b7 0 _).blk hGW.1 hne
   ·exact hGW.2.1.setCells_ _ rfl
   ·exact below_setCells hB7 hGW.2.2.1 _ _
   ·exact hGW.2.2.2.cells _ _ (.inl fun h=>h.2 rfl) _
  | 4=>cases ho;exact wp_assign' (.const (.int .i64 1)) rfl ⟨_,rfl,rfl,hGW,trivial⟩
  | i+5=>exact absurd ho (by simp)
 case hend=>
  exact Y162
theorem mret11 :
 (part [1,1,1,1,1,1,0,1,0,0,1,0,1] (codeOf meetF)).wp prog Q a w:=by
 obtain⟨t,df⟩:=a
 obtain⟨hd,hs,h6,h7,-⟩:=hfr
 simp only at hd hs h6 h7
 subst hd
 rw [eta128 t hs,h6,h7]
 clear hs h6 h7
 refine Wq ?_
 intro K hK
 conv=>arg 2;whnf
 refine wp_region_stores kr (fun i v _=>match i with|0=>v=.agg (mailC kind term index prev commit good eA en ec data hA hn hc epoch site atN atE whN whE oA on oc pA pn pc)|1=>v=.agg noCmd|4=>v=.int .i64 1|_=>True) (fun W=>Blk W b6 30 (mailC kind term index prev commit good eA en ec data hA hn hc epoch site atN atE whN whE oA on oc pA pn pc)/\Blk W b7 47 noCmd/\Below B W0 W/\Kept (But b6 b7) w W) (fun _ _=>True) kr ?hG ?hmono ?hstep ?hend
 case hG=>exact⟨h6.drew,h7.drew,hb.drew,Nat.le_refl _,fun _ _ _=>rfl⟩
 case hmono=>
  intro i v W W' _ hv
  match i with
  | 0|1|2|3|4=>exact hv
  | i+5=>exact hv
 case hstep=>
  intro i o F U W ho hGW hat hoff hp
  have r6:=oo 6 b6
  have r7:=oo 7 b7
  match i with
  | 0=>cases ho;exact wp_load_mid 30 (.tmp 6) rfl b6 0 r6 _ _ hGW.1.range underlying30 rfl Try.sizeMail ⟨_,rfl,rfl,hGW,trivial⟩
  | 1=>cases ho;exact wp_load_mid 47 (.tmp 7) rfl b7 0 r7 _ _ hGW.2.1.range underlying47 rfl Try.sizeCmd ⟨_,rfl,rfl,hGW,trivial⟩
  | 2=>
   cases ho
   have hv0:U 0=.agg (mailC kind term index prev commit good eA en ec data hA hn hc epoch site atN atE whN whE oA on oc pA pn pc):=hp ⟨0,.data⟩ (by simp) rfl
   have ht0:=hat 0 78 kd rfl;refine wp_store_mid 30 (.tmp 6) (.tmp 78) rfl b6 0 (mailC kind term index prev commit good eA en ec data hA hn hc epoch site atN atE whN whE oA on oc pA pn pc) r6 (ht0.trans hv0) (hGW.1.there_ 0 _ (Nat.le_refl _)) Try.sizeMail mailC_one ⟨_,rfl,trivial,⟨?_,?_,?_,?_⟩,trivial⟩
   ·exact hGW.1.setCells_ _ rfl
   ·exact (save_setCells W b6 0 _).blk hGW.2.1 (Ne.symm hne)
   ·exact below_setCells hB6 hGW.2.2.1 _ _
   ·exact hGW.2.2.2.cells _ _ (.inl fun h=>h.1 rfl) _
  | 3=>
   cases ho
   have hv1:U 1=.agg noCmd:=hp ⟨1,.data⟩ (by simp) rfl
   have ht1:=hat 1 79 kd rfl;refine wp_store_mid 47 (.tmp 7) (.tmp 79) rfl b7 0 noCmd r7 (ht1.trans hv1) (hGW.2.1.there_ 0 _ (Nat.le_refl _)) Try.sizeCmd noCmd_one ⟨_,rfl,trivial,⟨?_,?_,?_,?_⟩,trivial⟩
   ·exact (save_setCells W b7 0 _).blk hGW.1 hne
   ·exact hGW.2.1.setCells_ _ rfl
   ·exact below_setCells hB7 hGW.2.2.1 _ _
   ·exact hGW.2.2.2.cells _ _ (.inl fun h=>h.2 rfl) _
  | 4=>cases ho;exact wp_assign' (.const (.int .i64 1)) rfl ⟨_,rfl,rfl,hGW,trivial⟩
  | i+5=>exact absurd ho (by simp)
 case hend=>
  exact Y162
theorem mret18 :
 (part [1,1,1,1,1,1,0,1,0,1,1,0,1,1,1,1] (codeOf meetF)).wp prog Q a w:=by
 obtain⟨t,df⟩:=a
 obtain⟨hd,hs,h6,h7,-⟩:=hfr
 simp only at hd hs h6 h7
 subst hd
 rw [eta128 t hs,h6,h7]
 clear hs h6 h7
 refine Wq ?_
 intro K hK
 conv=>arg 2;whnf
 refine wp_region_stores kr (fun i v _=>match i with|0=>v=.agg (mailC kind term index prev commit good eA en ec data hA hn hc epoch site atN atE whN whE oA on oc pA pn pc)|1=>v=.agg noCmd|4=>v=.int .i64 1|_=>True) (fun W=>Blk W b6 30 (mailC kind term index prev commit good eA en ec data hA hn hc epoch site atN atE whN whE oA on oc pA pn pc)/\Blk W b7 47 noCmd/\Below B W0 W/\Kept (But b6 b7) w W) (fun _ _=>True) kr ?hG ?hmono ?hstep ?hend
 case hG=>exact⟨h6.drew,h7.drew,hb.drew,Nat.le_refl _,fun _ _ _=>rfl⟩
 case hmono=>
  intro i v W W' _ hv
  match i with
  | 0|1|2|3|4=>exact hv
  | i+5=>exact hv
 case hstep=>
  intro i o F U W ho hGW hat hoff hp
  have r6:=oo 6 b6
  have r7:=oo 7 b7
  match i with
  | 0=>cases ho;exact wp_load_mid 30 (.tmp 6) rfl b6 0 r6 _ _ hGW.1.range underlying30 rfl Try.sizeMail ⟨_,rfl,rfl,hGW,trivial⟩
  | 1=>cases ho;exact wp_load_mid 47 (.tmp 7) rfl b7 0 r7 _ _ hGW.2.1.range underlying47 rfl Try.sizeCmd ⟨_,rfl,rfl,hGW,trivial⟩
  | 2=>
   cases ho
   have hv0:U 0=.agg (mailC kind term index prev commit good eA en ec data hA hn hc epoch site atN atE whN whE oA on oc pA pn pc):=hp ⟨0,.data⟩ (by simp) rfl
   have ht0:=hat 0 111 kd rfl;refine wp_store_mid 30 (.tmp 6) (.tmp 111) rfl b6 0 (mailC kind term index prev commit good eA en ec data hA hn hc epoch site atN atE whN whE oA on oc pA pn pc) r6 (ht0.trans hv0) (hGW.1.there_ 0 _ (Nat.le_refl _)) Try.sizeMail mailC_one ⟨_,rfl,trivial,⟨?_,?_,?_,?_⟩,trivial⟩
   ·exact hGW.1.setCells_ _ rfl
   ·exact (save_setCells W b6 0 _).blk hGW.2.1 (Ne.symm hne)
   ·exact below_setCells hB6 hGW.2.2.1 _ _
   ·exact hGW.2.2.2.cells _ _ (.inl fun h=>h.1 rfl) _
  | 3=>
   cases ho
   have hv1:U 1=.agg noCmd:=hp ⟨1,.data⟩ (by simp) rfl
   have ht1:=hat 1 112 kd rfl;refine wp_store_mid 47 (.tmp 7) (.tmp 112) rfl b7 0 noCmd r7 (ht1.trans hv1) (hGW.2.1.there_ 0 _ (Nat.le_refl _)) Try.sizeCmd noCmd_one ⟨_,rfl,trivial,⟨?_,?_,?_,?_⟩,trivial⟩
   ·exact (save_setCells W b7 0 _).blk hGW.1 hne
   ·exact hGW.2.1.setCells_ _ rfl
   ·exact below_setCells hB7 hGW.2.2.1 _ _
   ·exact hGW.2.2.2.cells _ _ (.inl fun h=>h.2 rfl) _
  | 4=>cases ho;exact wp_assign' (.const (.int .i64 1)) rfl ⟨_,rfl,rfl,hGW,trivial⟩
  | i+5=>exact absurd ho (by simp)
 case hend=>
  exact Y162
end
end
end
def HintS (w:World) (b6 n:Nat) (os:List OpC) (aN aE E:Int):List Value->World->Prop
 | [],W=>W=w
 | [u],W=>(∃ A' c',u=.slice A' n c'/\IntIs W (From w.heap.size) A' n c' (os.map (·.epoch)))/\Below w w W
 | [_,u],W=>u=.agg #[.int .i64 (Seam.hintN (os.map (·.epoch)) aN aE:Nat),.int .i64 (Seam.ep (os.map (·.epoch)) (Seam.hintN (os.map (·.epoch)) aN aE))]/\Below w w W
 | [_,_,_],W=>Blk W b6 30 (mailC 10 0 0 0 0 false none 0 0 ⟨#[]⟩ none 0 0 E 0 (Seam.hintN (os.map (·.epoch)) aN aE:Nat) (Seam.ep (os.map (·.epoch)) (Seam.hintN (os.map (·.epoch)) aN aE)) 0 0 none 0 0 none 0 0)/\Below b6 w W/\Kept (fun b=>b≠b6) w W
 | _,_=>False
section
variable {cs:Array Value} {good:Bool} {data:ByteArray} {E aE aN commit epoch index kind prev site term whE whN:Int} {os:List OpC} {vs:List Value} {b b11 b4 b5 b6 b7 c ec en hc hn n oc on pc pn:Nat} {S Sx:Nat->Prop} {A eA hA oA pA:O} {t:TypeId} {W w:World}
theorem HintS.kept (h:HintS w b6 n os aN aE E vs W):Kept (fun b=>b≠b6) w W:=by
 rcases vs with _|⟨u0,_|⟨u1,_|⟨u2,_|⟨u3,l⟩⟩⟩⟩
 ·exact (show W=w from h)▸Kept.refl _ _
 ·exact Kept.of _ h.2
 ·exact Kept.of _ h.2
 ·exact h.2.2
 ·exact h.elim
theorem Blk.kept_ (h:Blk w b t cs) (hk:Kept S w W) (hb:S b):Blk W b t cs:=(hk.2 b hb h.lt).trans h
theorem mhint (Q:Z) (a:Act) (hfr:Fr 128 a [(4,b4),(5,b5),(6,b6),(7,b7),(11,b11)]) (h4:Blk w b4 30 (mailC kind term index prev commit good eA en ec data hA hn hc epoch site aN aE whN whE oA on oc pA pn pc)) (h6:Blk w b6 30 (mailC 10 0 0 0 0 false none 0 0 ⟨#[]⟩ none 0 0 E 0 0 0 0 0 none 0 0 none 0 0)) (h11:Blk w b11 28 #[.slice A n c]) (ho:OpsIs w Sx A n c os) (hz:n<=4294967296) (haN:I64 aN) (n4:b4≠b6) (n11:b11≠b6) (hQ:∀ a' W,Fr 128 a' [(4,b4),(5,b5),(6,b6),(7,b7),(11,b11)]->(Blk W b6 30 (mailC 10 0 0 0 0 false none 0 0 ⟨#[]⟩ none 0 0 E 0 (Seam.hintN (os.map (·.epoch)) aN aE:Nat) (Seam.ep (os.map (·.epoch)) (Seam.hintN (os.map (·.epoch)) aN aE)) 0 0 none 0 0 none 0 0)/\Below b6 w W/\Kept (fun b=>b≠b6) w W)->Q .normal a' W) :
 (part [1,1,1,1,1,1,0,1,0,0,1,0,0] (codeOf meetF)).wp prog Q a w:=by
 have hk4':Blk w.drew b4 30 (mailC kind term index prev commit good eA en ec data hA hn hc epoch site aN aE whN whE oA on oc pA pn pc)/\b4≠b6:=⟨h4,n4⟩
 have hk6':Blk w.drew b6 30 (mailC 10 0 0 0 0 false none 0 0 ⟨#[]⟩ none 0 0 E 0 0 0 0 0 none 0 0 none 0 0)/\True:=⟨h6,trivial⟩
 have hk11':Blk w.drew b11 28 #[.slice A n c]/\b11≠b6:=⟨h11,n11⟩
 have ho':OpsIs w.drew Sx A n c os:=ho.below ⟨rfl,rfl,rfl,Nat.le_refl _,fun _ _=>rfl⟩
 have hz':n<=4294967296/\w.drew=w.drew:=⟨hz,rfl⟩
 have han':I64 aN/\w.drew=w.drew:=⟨haN,rfl⟩
 have HQ:=J (show ∀ a' W,Fr 128 a' [(4,b4),(5,b5),(6,b6),(7,b7),(11,b11)]->(Blk W b6 30 (mailC 10 0 0 0 0 false none 0 0 ⟨#[]⟩ none 0 0 E 0 (Seam.hintN (os.map (·.epoch)) aN aE:Nat) (Seam.ep (os.map (·.epoch)) (Seam.hintN (os.map (·.epoch)) aN aE)) 0 0 none 0 0 none 0 0)/\Below b6 w.drew W/\Kept (fun b=>b≠b6) w.drew W)->Q .normal a' W from fun a' W hf hh=>hQ a' W hf ⟨hh.1,⟨hh.2.1.os,hh.2.1.tape,hh.2.1.output,hh.2.1.size,hh.2.1.block⟩,hh.2.2.1,hh.2.2.2⟩)
 clear h4 h6 h11 ho hz haN n4 n11 hQ
 obtain⟨w0,hw0⟩:∃ w0,w0=w.drew:=⟨_,rfl⟩
 rw [<-hw0] at hk4' hk6' hk11' ho' hz' han' HQ
 obtain⟨HK4,HK6,HK11,HO,HZ,HAN⟩:=J6 hk4' hk6' hk11' ho' hz' han'
 clear hk4' hk6' hk11' ho' hz' han'
 refine gg hfr fun t=>?_
 generalize w=w1 at hw0 ⊢
 have HW0:=J hw0
 clear hw0
 refine wp_region_chain kr [1,8,10] (fun i=>match i with|0=>.slice A n c|2=>.pointer (some ⟨b4,11,none⟩)|3=>.pointer (some ⟨b4,11,none⟩)|4=>aN|5=>.pointer (some ⟨b4,11,none⟩)|6=>.pointer (some ⟨b4,12,none⟩)|7=>aE|9=>.pointer (some ⟨b6,11,none⟩)|_=>undef) (HintS w0 b6 n os aN aE E) (fun s i=>s==i) kr kr kr kr ?hS ?hfree ?hlink ?hend
 case hS=>exact HW0.out.symm
 case hfree=>
  intro i o F U vs W ho hni hS hlen hlim hat hoff hd
  have e4:=oo 4 b4
  have t4:=act_tmp e4
  have e6:=oo 6 b6
  have t6:=act_tmp e6
  have e11:=oo 11 b11
  have t11:=act_tmp e11
  obtain⟨qa,qb⟩:=J2 hat hd
  clear hat hoff hd
  match i with
  | 0=>
   cases ho
   have hkW:=hS.kept
   have d0:=(HK11.out.1.kept_ hkW HK11.out.2).cell 0
   exact Y107
  | 1|8|10=>
   exact Y81
  | 2|5|9=>
   exact Y66
  | 3=>
   cases ho
   have t70:=act_tmp (fev qa qb 2 70)
   exact vl ⟨rfl,rfl⟩
  | 4=>
   cases ho
   have t71:=act_tmp (fev qa qb 3 71)
   have hkW:=hS.kept
   have d0:=(HK4.out.1.kept_ hkW HK4.out.2).cell 11
   exact Y107
  | 6=>
   cases ho
   have t73:=act_tmp (fev qa qb 5 73)
   exact vl ⟨rfl,rfl⟩
  | 7=>
   cases ho
   have t74:=act_tmp (fev qa qb 6 74)
   have hkW:=hS.kept
   have d0:=(HK4.out.1.kept_ hkW HK4.out.2).cell 12
   exact Y107
  | i+11=>exact absurd ho (by simp)
 case hlink=>
  intro k i o F U vs W hk ho hS hvl hat hoff hd
  have:=ot 4 b4
  have:=ot 6 b6
  have:=ot 11 b11
  obtain⟨qa,qb⟩:=J2 hat hd
  clear hat hoff hd
  match k with
  | 0=>
   cases hk;cases ho;obtain rfl:=List.eq_nil_of_length_eq_zero hvl;have e68:=fev qa qb 0 68;have t68:=act_tmp e68;obtain rfl:=hS
   refine wp_enter' 56 #[.slice A n c] (by unfold execOp;go_simp) ?_
   refine (epochsL_any os W HO.out HZ.out.1).mono ?_
   rintro e W' ⟨g,rfl,hi,hb⟩
   exact⟨_,rfl,_,rfl,⟨_,_,rfl,hi⟩,hb⟩
  | 1=>
   cases hk;cases ho;obtain⟨u0,rfl⟩:=ln1 hvl;have e69:=cev qa qb 1 69;have t69:=act_tmp e69;have e72:=fev qa qb 4 72;have t72:=act_tmp e72;have e75:=fev qa qb 7 75;have t75:=act_tmp e75;obtain⟨⟨A',c',hu,hi⟩,hb⟩:=hS;rw [hu] at e69;have t69:=act_tmp e69
   refine wp_enter' 55 #[.slice A' n c',aN,aE] (by unfold execOp;go_simp) ?_
   refine (hint_any A' n c' (os.map (·.epoch)) W hi.1.reads (by have:=hi.2.1;have:=hi.2.2;omega) aN aE HAN.out.1).mono ?_
   rintro e W' ⟨rfl,hb'⟩
   exact⟨_,rfl,_,rfl,rfl,hb.trans (hb'.mono hb.size)⟩
  | 2=>
   cases hk;cases ho;obtain⟨u0,u1,rfl⟩:=ln2 hvl;have e77:=fev qa qb 9 77;have t77:=act_tmp e77;have e76:=cev qa qb 8 76;have t76:=act_tmp e76;obtain⟨hu,hb⟩:=hS;rw [hu] at e76;have t76:=act_tmp e76;have h6:=HK6.out.1.below hb HK6.out.1.lt;have f11:=h6.frozen;obtain⟨d11,d12⟩:=h6.cs 11 2
   refine wp_skip' ((W.setCell ⟨b6,11,none⟩ (.int .i64 (Seam.hintN (os.map (·.epoch)) aN aE:Nat))).setCell ⟨b6,12,none⟩ (.int .i64 (Seam.ep (os.map (·.epoch)) (Seam.hintN (os.map (·.epoch)) aN aE)))) (by unfold execOp;go_simp) ⟨_,rfl,(h6.set_ 11 _).set_ 12 _,((hb.mono (Nat.le_of_lt HK6.out.1.lt)).setCell (p:=⟨b6,11,none⟩) (Nat.le_refl _) _).setCell (p:=⟨b6,12,none⟩) (Nat.le_refl _) _,((Kept.of _ hb).set_ ⟨b6,11,none⟩ (.inl fun h=>h rfl) _).set_ ⟨b6,12,none⟩ (.inl fun h=>h rfl) _⟩
  | k+3=>exact absurd hk (by simp)
 case hend=>
  exact Y157
end
def ReachS (w:World) (b12 hn:Nat) (holes:List Int) (E eN eE sN sE:Int):List Value->World->Prop
 | [],W=>W=w
 | [u],W=>(∃ A' c',u=.slice A' hn c'/\IntIs W (From w.heap.size) A' hn c' holes)/\Below w w W
 | [u,_],W=>(∃ A' c',u=.slice A' hn c'/\IntIs W (From w.heap.size) A' hn c' holes)/\Blk W b12 30 (mailC 10 0 0 0 0 true none 0 0 ⟨#[]⟩ none 0 0 E 0 eN eE sN sE none 0 0 none 0 0)/\Below b12 w W/\Kept (fun b=>b≠b12) w W
 | [_,_,_],W=>(∃ A' c',Blk W b12 30 (mailC 10 0 0 0 0 true none 0 0 ⟨#[]⟩ none 0 0 E 0 eN eE sN sE A' hn c' none 0 0)/\IntIs W (From w.heap.size) A' hn c' holes)/\Below b12 w W/\Kept (fun b=>b≠b12) w W
 | _,_=>False
section
variable {E eE eN sE sN:Int} {holes:List Int} {vs:List Value} {b11 b12 b4 b5 b6 b7 hc hn:Nat} {Sx:Nat->Prop} {hA:O} {W w:World}
theorem ReachS.kept (h:ReachS w b12 hn holes E eN eE sN sE vs W):Kept (fun b=>b≠b12) w W:=by
 rcases vs with _|⟨u0,_|⟨u1,_|⟨u2,_|⟨u3,l⟩⟩⟩⟩
 ·exact (show W=w from h)▸Kept.refl _ _
 ·exact Kept.of _ h.2
 ·exact h.2.2.2
 ·exact h.2.2
 ·exact h.elim
theorem mreach (Q:Z) (a:Act) (hfr:Fr 128 a [(4,b4),(5,b5),(6,b6),(7,b7),(11,b11),(12,b12)]) (h5:Blk w b5 32 #[sN,sE,.slice hA hn hc]) (h12:Blk w b12 30 (mailC 10 0 0 0 0 true none 0 0 ⟨#[]⟩ none 0 0 E 0 eN eE 0 0 none 0 0 none 0 0)) (ho:IntIs w Sx hA hn hc holes) (hz:hn*8<=140737488351232) (n5:b5≠b12) (hQ:∀ a' W,Fr 128 a' [(4,b4),(5,b5),(6,b6),(7,b7),(11,b11),(12,b12)]->((∃ A' c',Blk W b12 30 (mailC 10 0 0 0 0 true none 0 0 ⟨#[]⟩ none 0 0 E 0 eN eE sN sE A' hn c' none 0 0)/\IntIs W (From w.heap.size) A' hn c' holes)/\Below b12 w W/\Kept (fun b=>b≠b12) w W)->Q .normal a' W) :
 (part [1,1,1,1,1,1,0,1,0,1,1,0,1,1,0] (codeOf meetF)).wp prog Q a w:=by
 have hk5':Blk w.drew b5 32 #[sN,sE,.slice hA hn hc]/\b5≠b12:=⟨h5,n5⟩
 have hk12':Blk w.drew b12 30 (mailC 10 0 0 0 0 true none 0 0 ⟨#[]⟩ none 0 0 E 0 eN eE 0 0 none 0 0 none 0 0)/\True:=⟨h12,trivial⟩
 have ho':IntIs w.drew Sx hA hn hc holes:=ho.below ⟨rfl,rfl,rfl,Nat.le_refl _,fun _ _=>rfl⟩
 have hz':hn*8<=140737488351232/\w.drew=w.drew:=⟨hz,rfl⟩
 have HQ:=J (show ∀ a' W,Fr 128 a' [(4,b4),(5,b5),(6,b6),(7,b7),(11,b11),(12,b12)]->((∃ A' c',Blk W b12 30 (mailC 10 0 0 0 0 true none 0 0 ⟨#[]⟩ none 0 0 E 0 eN eE sN sE A' hn c' none 0 0)/\IntIs W (From w.drew.heap.size) A' hn c' holes)/\Below b12 w.drew W/\Kept (fun b=>b≠b12) w.drew W)->Q .normal a' W from fun a' W hf hh=>hQ a' W hf ⟨hh.1,⟨hh.2.1.os,hh.2.1.tape,hh.2.1.output,hh.2.1.size,hh.2.1.block⟩,hh.2.2.1,hh.2.2.2⟩)
 clear h5 h12 ho hz n5 hQ
 obtain⟨w0,hw0⟩:∃ w0,w0=w.drew:=⟨_,rfl⟩
 rw [<-hw0] at hk5' hk12' ho' hz' HQ
 obtain⟨HK5,HK12,HO,HZ⟩:=J4 hk5' hk12' ho' hz'
 clear hk5' hk12' ho' hz'
 refine gg hfr fun t=>?_
 generalize w=w1 at hw0 ⊢
 have HW0:=J hw0
 clear hw0
 refine wp_region_chain kr [4,6,8] (fun i=>match i with|0=>b5|1=>.agg #[sN,sE]|2=>.pointer (some ⟨b5,2,none⟩)|3=>.slice hA hn hc|5=>.pointer (some ⟨b12,13,none⟩)|7=>.pointer (some ⟨b12,15,none⟩)|_=>undef) (ReachS w0 b12 hn holes E eN eE sN sE) (fun s i=>s==i) kr kr kr kr ?hS ?hfree ?hlink ?hend
 case hS=>exact HW0.out.symm
 case hfree=>
  intro i o F U vs W ho hni hS hlen hlim hat hoff hd
  have e5:=oo 5 b5
  have t5:=act_tmp e5
  have e12:=oo 12 b12
  have t12:=act_tmp e12
  obtain⟨qa,qb⟩:=J2 hat hd
  clear hat hoff hd
  match i with
  | 0|2|5|7=>
   exact Y66
  | 1=>
   cases ho
   have t93:=act_tmp (fev qa qb 0 93)
   have hkW:=hS.kept
   have d0:=(HK5.out.1.kept_ hkW HK5.out.2).cell 0
   have d1:=(HK5.out.1.kept_ hkW HK5.out.2).cell 1
   simp at d0 d1
   exact vl ⟨rfl,rfl⟩
  | 3=>
   cases ho
   have t95:=act_tmp (fev qa qb 2 95)
   have hkW:=hS.kept
   have d0:=(HK5.out.1.kept_ hkW HK5.out.2).cell 2
   exact Y107
  | 4|6|8=>
   exact Y81
  | i+9=>exact absurd ho (by simp)
 case hlink=>
  intro k i o F U vs W hk ho hS hvl hat hoff hd
  have:=ot 5 b5
  have:=ot 12 b12
  obtain⟨qa,qb⟩:=J2 hat hd
  clear hat hoff hd
  match k with
  | 0=>
   cases hk;cases ho;obtain rfl:=List.eq_nil_of_length_eq_zero hvl;have e96:=fev qa qb 3 96;have t96:=act_tmp e96;obtain rfl:=hS
   refine wp_enter' 61 #[.slice hA hn hc] (by unfold execOp;go_simp) ?_
   refine (cloneInts_any W HO.out HZ.out.1).mono ?_
   rintro e W' ⟨A',c',rfl,hi,hb⟩
   exact⟨_,rfl,_,rfl,⟨_,_,rfl,hi⟩,hb⟩
  | 1=>
   cases hk;cases ho;obtain⟨u0,rfl⟩:=ln1 hvl;have e98:=fev qa qb 5 98;have t98:=act_tmp e98;have e94:=fev qa qb 1 94;have t94:=act_tmp e94;obtain⟨⟨A',c',hu,hi⟩,hb⟩:=hS;have h6:=HK12.out.1.below hb HK12.out.1.lt;have f13:=h6.frozen;obtain⟨d13,d14⟩:=h6.cs 13 2;have hlt:=HK12.out.1.lt
   refine wp_skip' ((W.setCell ⟨b12,13,none⟩ (.int .i64 sN)).setCell ⟨b12,14,none⟩ (.int .i64 sE)) (by unfold execOp;go_simp) ⟨_,rfl,⟨A',c',hu,hi.kept (((Kept.refl _ _).set_ ⟨b12,13,none⟩ (.inl fun h=>absurd (show w0.heap.size<=b12 from h) (by omega)) _).set_ ⟨b12,14,none⟩ (.inl fun h=>absurd (show w0.heap.size<=b12 from h) (by omega)) _)⟩,(h6.set_ 13 _).set_ 14 _,((hb.mono (Nat.le_of_lt HK12.out.1.lt)).setCell (p:=⟨b12,13,none⟩) (Nat.le_refl _) _).setCell (p:=⟨b12,14,none⟩) (Nat.le_refl _) _,((Kept.of _ hb).set_ ⟨b12,13,none⟩ (.inl fun h=>h rfl) _).set_ ⟨b12,14,none⟩ (.inl fun h=>h rfl) _⟩
  | 2=>
   cases hk;cases ho;obtain⟨u0,u1,rfl⟩:=ln2 hvl;have e99:=fev qa qb 7 99;have t99:=act_tmp e99;have e97:=cev qa qb 4 97;have t97:=act_tmp e97;obtain⟨⟨A',c',hu,hi⟩,h6,hb,hkk⟩:=hS;rw [hu] at e97;have t97:=act_tmp e97;have f15:=h6.frozen 15;have d15:=h6.c1 15;have hlt:=HK12.out.1.lt
   refine wp_skip' (W.setCell ⟨b12,15,none⟩ (.slice A' hn c')) (by unfold execOp;go_simp) ⟨_,rfl,⟨A',c',h6.set_ 15 _,hi.kept ((Kept.refl _ _).set_ ⟨b12,15,none⟩ (.inl fun h=>absurd (show w0.heap.size<=b12 from h) (by omega)) _)⟩,hb.setCell (p:=⟨b12,15,none⟩) (Nat.le_refl _) _,hkk.set_ ⟨b12,15,none⟩ (.inl fun h=>h rfl) _⟩
  | k+3=>exact absurd hk (by simp)
 case hend=>
  exact Y157
end
end Go.Proofs.Ytaipgdhdfpemcaa
