/- THE WALKS OF THE LANE, part 42. -/
import Derived.Test.YtaipgdhdfpemcaaF33
namespace Go.Proofs.Ytaipgdhdfpemcaa
set_option linter.all false
open Go.RowKit Go.Proofs.Try
set_option maxRecDepth 100000
set_option maxHeartbeats 4000000
abbrev But (b6 b7:Nat):Nat->Prop:=fun b=>b≠b6/\b≠b7
section
variable {good:Bool} {data:ByteArray} {atE atN commit epoch index kind prev site term whE whN:Int} {ec en hc hn oc on pc pn:Nat} {eA hA oA pA:O} {Q:Z}
section
variable (R:Ending->World->Prop) (hQ:∀ a w,bodyPost prog meetF R .ret a w->Q .ret a w) (B:Nat) (W0:World) (a:Act) (w:World) (b6 b7:Nat) (hfr:Fr 128 a [(6,b6),(7,b7)]) (h6:Blk w b6 30 (mailC kind term index prev commit good eA en ec data hA hn hc epoch site atN atE whN whE oA on oc pA pn pc)) (h7:Blk w b7 47 noCmd) (hne:b6≠b7) (hB6:B<=b6) (hB7:B<=b7) (hb:Below B W0 w)
include R hQ B W0 a w b6 b7 hfr h6 h7 hne hB6 hB7 hb
theorem mret3 (hR:∀ w',Below B W0 w'->Kept (But b6 b7) w w'->R (.returned (.tuple #[.agg (mailC kind term index prev commit good eA en ec data hA hn hc epoch site atN atE whN whE oA on oc pA pn pc),.agg noCmd,.int .i64 0])) w') :
 (part [1,1,0,1,0] (codeOf meetF)).wp prog Q a w:=by
 obtain⟨t,df⟩:=a
 obtain⟨hd,hs,h6,h7,-⟩:=hfr
 simp only at hd hs h6 h7
 subst hd
 rw [eta128 t hs,h6,h7]
 clear hs h6 h7
 refine w2p ?_
 intro K hK
 conv=>arg 2;whnf
 refine wp_region_stores kr (fun i v _=>match i with|0=>v=.agg (mailC kind term index prev commit good eA en ec data hA hn hc epoch site atN atE whN whE oA on oc pA pn pc)|1=>v=.agg noCmd|4=>v=.int .i64 0|_=>True) (fun W=>Blk W b6 30 (mailC kind term index prev commit good eA en ec data hA hn hc epoch site atN atE whN whE oA on oc pA pn pc)/\Blk W b7 47 noCmd/\Below B W0 W/\Kept (But b6 b7) w W) (fun _ _=>True) kr ?hG ?hmono ?hstep ?hend
 case hG=>exact⟨h6.drew,h7.drew,hb.drew,Nat.le_refl _,fun _ _ _=>rfl⟩
 case hmono=>
  intro i v W W' _ hv
  match i with
  | 0|1|2|3|4=>exact hv
  | i+5=>exact hv
 case hstep=>
  intro i o F U W ho hGW hat hoff hp
  have r6:=oo 6 b6
  have r7:=oo 7 b7
  match i with
  | 0=>cases ho;exact wp_load_mid 30 (.tmp 6) rfl b6 0 r6 _ _ hGW.1.range underlying30 rfl Try.sizeMail ⟨_,rfl,rfl,hGW,trivial⟩
  | 1=>cases ho;exact wp_load_mid 47 (.tmp 7) rfl b7 0 r7 _ _ hGW.2.1.range underlying47 rfl Try.sizeCmd ⟨_,rfl,rfl,hGW,trivial⟩
  | 2=>
   cases ho
   have hv0:U 0=.agg (mailC kind term index prev commit good eA en ec data hA hn hc epoch site atN atE whN whE oA on oc pA pn pc):=hp ⟨0,.data⟩ (by simp) rfl
   have ht0:=hat 0 41 kd rfl;refine wp_store_mid 30 (.tmp 6) (.tmp 41) rfl b6 0 (mailC kind term index prev commit good eA en ec data hA hn hc epoch site atN atE whN whE oA on oc pA pn pc) r6 (ht0.trans hv0) (hGW.1.there_ 0 _ (Nat.le_refl _)) Try.sizeMail mailC_one ⟨_,rfl,trivial,⟨?_,?_,?_,?_⟩,trivial⟩
   ·exact hGW.1.setCells_ _ rfl
   ·exact (save_setCells W b6 0 _).blk hGW.2.1 (Ne.symm hne)
   ·exact below_setCells hB6 hGW.2.2.1 _ _
   ·exact hGW.2.2.2.cells _ _ (.inl fun h=>h.1 rfl) _
  | 3=>
   cases ho
   have hv1:U 1=.agg noCmd:=hp ⟨1,.data⟩ (by simp) rfl
   have ht1:=hat 1 42 kd rfl;refine wp_store_mid 47 (.tmp 7) (.tmp 42) rfl b7 0 noCmd r7 (ht1.trans hv1) (hGW.2.1.there_ 0 _ (Nat.le_refl _)) Try.sizeCmd noCmd_one ⟨_,rfl,trivial,⟨?_,?_,?_,?_⟩,trivial⟩
   ·exact (save_setCells W b7 0 _).blk hGW.1 hne
   ·exact hGW.2.1.setCells_ _ rfl
   ·exact below_setCells hB7 hGW.2.2.1 _ _
   ·exact hGW.2.2.2.cells _ _ (.inl fun h=>h.2 rfl) _
  | 4=>cases ho;exact wp_assign' (.const (.int .i64 0)) rfl ⟨_,rfl,rfl,hGW,trivial⟩
  | i+5=>exact absurd ho (by simp)
 case hend=>
  intro U W hGW hV
  have h4:U 4=.int .i64 0:=hV 4 kd
  exact Y24
section
variable (hR:∀ w',Below B W0 w'->Kept (But b6 b7) w w'->R (.returned (.tuple #[.agg (mailC kind term index prev commit good eA en ec data hA hn hc epoch site atN atE whN whE oA on oc pA pn pc),.agg noCmd,.int .i64 1])) w')
include hR
theorem mret7 :
 (part [1,1,1,1,1,0,1,0] (codeOf meetF)).wp prog Q a w:=by
 obtain⟨t,df⟩:=a
 obtain⟨hd,hs,h6,h7,-⟩:=hfr
 simp only at hd hs h6 h7
 subst hd
 rw [eta128 t hs,h6,h7]
 clear hs h6 h7
 refine w2p ?_
 intro K hK
 conv=>arg 2;whnf
 refine wp_region_stores kr (fun i v _=>match i with|0=>v=.agg (mailC kind term index prev commit good eA en ec data hA hn hc epoch site atN atE whN whE oA on oc pA pn pc)|1=>v=.agg noCmd|4=>v=.int .i64 1|_=>True) (fun W=>Blk W b6 30 (mailC kind term index prev commit good eA en ec data hA hn hc epoch site atN atE whN whE oA on oc pA pn pc)/\Blk W b7 47 noCmd/\Below B W0 W/\Kept (But b6 b7) w W) (fun _ _=>True) kr ?hG ?hmono ?hstep ?hend
 case hG=>exact⟨h6.drew,h7.drew,hb.drew,Nat.le_refl _,fun _ _ _=>rfl⟩
 case hmono=>
  intro i v W W' _ hv
  match i with
  | 0|1|2|3|4=>exact hv
  | i+5=>exact hv
 case hstep=>
  intro i o F U W ho hGW hat hoff hp
  have r6:=oo 6 b6
  have r7:=oo 7 b7
  match i with
  | 0=>cases ho;exact wp_load_mid 30 (.tmp 6) rfl b6 0 r6 _ _ hGW.1.range underlying30 rfl Try.sizeMail ⟨_,rfl,rfl,hGW,trivial⟩
  | 1=>cases ho;exact wp_load_mid 47 (.tmp 7) rfl b7 0 r7 _ _ hGW.2.1.range underlying47 rfl Try.sizeCmd ⟨_,rfl,rfl,hGW,trivial⟩
  | 2=>
   cases ho
   have hv0:U 0=.agg (mailC kind term index prev commit good eA en ec data hA hn hc epoch site atN atE whN whE oA on oc pA pn pc):=hp ⟨0,.data⟩ (by simp) rfl
   have ht0:=hat 0 56 kd rfl;refine wp_store_mid 30 (.tmp 6) (.tmp 56) rfl b6 0 (mailC kind term index prev commit good eA en ec data hA hn hc epoch site atN atE whN whE oA on oc pA pn pc) r6 (ht0.trans hv0) (hGW.1.there_ 0 _ (Nat.le_refl _)) Try.sizeMail mailC_one ⟨_,rfl,trivial,⟨?_,?_,?_,?_⟩,trivial⟩
   ·exact hGW.1.setCells_ _ rfl
   ·exact (save_setCells W b6 0 _).blk hGW.2.1 (Ne.symm hne)
   ·exact below_setCells hB6 hGW.2.2.1 _ _
   ·exact hGW.2.2.2.cells _ _ (.inl fun h=>h.1 rfl) _
  | 3=>
   cases ho
   have hv1:U 1=.agg noCmd:=hp ⟨1,.data⟩ (by simp) rfl
   have ht1:=hat 1 57 kd rfl;refine wp_store_mid 47 (.tmp 7) (.tmp 57) rfl b7 0 noCmd r7 (ht1.trans hv1) (hGW.2.1.there_ 0 _ (Nat.le_refl _)) Try.sizeCmd noCmd_one ⟨_,rfl,trivial,⟨?_,?_,?_,?_⟩,trivial⟩
   ·exact (save_setCells W b7 0 _).blk hGW.1 hne
   ·exact hGW.2.1.setCells_ _ rfl
   ·exact below_setCells hB7 hGW.2.2.1 _ _
   ·exact hGW.2.2.2.cells _ _ (.inl fun h=>h.2 rfl) _
  | 4=>cases ho;exact wp_assign' (.const (.int .i64 1)) rfl ⟨_,rfl,rfl,hGW,trivial⟩
  | i+5=>exact absurd ho (by simp)
 case hend=>
  exact Y229
theorem mret11 :
 (part [1,1,1,1,1,1,0,1,0,0,1,0,1] (codeOf meetF)).wp prog Q a w:=by
 obtain⟨t,df⟩:=a
 obtain⟨hd,hs,h6,h7,-⟩:=hfr
 simp only at hd hs h6 h7
 subst hd
 rw [eta128 t hs,h6,h7]
 clear hs h6 h7
 refine w2p ?_
 intro K hK
 conv=>arg 2;whnf
 refine wp_region_stores kr (fun i v _=>match i with|0=>v=.agg (mailC kind term index prev commit good eA en ec data hA hn hc epoch site atN atE whN whE oA on oc pA pn pc)|1=>v=.agg noCmd|4=>v=.int .i64 1|_=>True) (fun W=>Blk W b6 30 (mailC kind term index prev commit good eA en ec data hA hn hc epoch site atN atE whN whE oA on oc pA pn pc)/\Blk W b7 47 noCmd/\Below B W0 W/\Kept (But b6 b7) w W) (fun _ _=>True) kr ?hG ?hmono ?hstep ?hend
 case hG=>exact⟨h6.drew,h7.drew,hb.drew,Nat.le_refl _,fun _ _ _=>rfl⟩
 case hmono=>
  intro i v W W' _ hv
  match i with
  | 0|1|2|3|4=>exact hv
  | i+5=>exact hv
 case hstep=>
  intro i o F U W ho hGW hat hoff hp
  have r6:=oo 6 b6
  have r7:=oo 7 b7
  match i with
  | 0=>cases ho;exact wp_load_mid 30 (.tmp 6) rfl b6 0 r6 _ _ hGW.1.range underlying30 rfl Try.sizeMail ⟨_,rfl,rfl,hGW,trivial⟩
  | 1=>cases ho;exact wp_load_mid 47 (.tmp 7) rfl b7 0 r7 _ _ hGW.2.1.range underlying47 rfl Try.sizeCmd ⟨_,rfl,rfl,hGW,trivial⟩
  | 2=>
   cases ho
   have hv0:U 0=.agg (mailC kind term index prev commit good eA en ec data hA hn hc epoch site atN atE whN whE oA on oc pA pn pc):=hp ⟨0,.data⟩ (by simp) rfl
   have ht0:=hat 0 78 kd rfl;refine wp_store_mid 30 (.tmp 6) (.tmp 78) rfl b6 0 (mailC kind term index prev commit good eA en ec data hA hn hc epoch site atN atE whN whE oA on oc pA pn pc) r6 (ht0.trans hv0) (hGW.1.there_ 0 _ (Nat.le_refl _)) Try.sizeMail mailC_one ⟨_,rfl,trivial,⟨?_,?_,?_,?_⟩,trivial⟩
   ·exact hGW.1.setCells_ _ rfl
   ·exact (save_setCells W b6 0 _).blk hGW.2.1 (Ne.symm hne)
   ·exact below_setCells hB6 hGW.2.2.1 _ _
   ·exact hGW.2.2.2.cells _ _ (.inl fun h=>h.1 rfl) _
  | 3=>
   cases ho
   have hv1:U 1=.agg noCmd:=hp ⟨1,.data⟩ (by simp) rfl
   have ht1:=hat 1 79 kd rfl;refine wp_store_mid 47 (.tmp 7) (.tmp 79) rfl b7 0 noCmd r7 (ht1.trans hv1) (hGW.2.1.there_ 0 _ (Nat.le_refl _)) Try.sizeCmd noCmd_one ⟨_,rfl,trivial,⟨?_,?_,?_,?_⟩,trivial⟩
   ·exact (save_setCells W b7 0 _).blk hGW.1 hne
   ·exact hGW.2.1.setCells_ _ rfl
   ·exact below_setCells hB7 hGW.2.2.1 _ _
   ·exact hGW.2.2.2.cells _ _ (.inl fun h=>h.2 rfl) _
  | 4=>cases ho;exact wp_assign' (.const (.int .i64 1)) rfl ⟨_,rfl,rfl,hGW,trivial⟩
  | i+5=>exact absurd ho (by simp)
 case hend=>
  exact Y229
theorem mret18 :
 (part [1,1,1,1,1,1,0,1,0,1,1,0,1,1,1,1] (codeOf meetF)).wp prog Q a w:=by
 obtain⟨t,df⟩:=a
 obtain⟨hd,hs,h6,h7,-⟩:=hfr
 simp only at hd hs h6 h7
 subst hd
 rw [eta128 t hs,h6,h7]
 clear hs h6 h7
 refine w2p ?_
 intro K hK
 conv=>arg 2;whnf
 refine wp_region_stores kr (fun i v _=>match i with|0=>v=.agg (mailC kind term index prev commit good eA en ec data hA hn hc epoch site atN atE whN whE oA on oc pA pn pc)|1=>v=.agg noCmd|4=>v=.int .i64 1|_=>True) (fun W=>Blk W b6 30 (mailC kind term index prev commit good eA en ec data hA hn hc epoch site atN atE whN whE oA on oc pA pn pc)/\Blk W b7 47 noCmd/\Below B W0 W/\Kept (But b6 b7) w W) (fun _ _=>True) kr ?hG ?hmono ?hstep ?hend
 case hG=>exact⟨h6.drew,h7.drew,hb.drew,Nat.le_refl _,fun _ _ _=>rfl⟩
 case hmono=>
  intro i v W W' _ hv
  match i with
  | 0|1|2|3|4=>exact hv
  | i+5=>exact hv
 case hstep=>
  intro i o F U W ho hGW hat hoff hp
  have r6:=oo 6 b6
  have r7:=oo 7 b7
  match i with
  | 0=>cases ho;exact wp_load_mid 30 (.tmp 6) rfl b6 0 r6 _ _ hGW.1.range underlying30 rfl Try.sizeMail ⟨_,rfl,rfl,hGW,trivial⟩
  | 1=>cases ho;exact wp_load_mid 47 (.tmp 7) rfl b7 0 r7 _ _ hGW.2.1.range underlying47 rfl Try.sizeCmd ⟨_,rfl,rfl,hGW,trivial⟩
  | 2=>
   cases ho
   have hv0:U 0=.agg (mailC kind term index prev commit good eA en ec data hA hn hc epoch site atN atE whN whE oA on oc pA pn pc):=hp ⟨0,.data⟩ (by simp) rfl
   have ht0:=hat 0 111 kd rfl;refine wp_store_mid 30 (.tmp 6) (.tmp 111) rfl b6 0 (mailC kind term index prev commit good eA en ec data hA hn hc epoch site atN atE whN whE oA on oc pA pn pc) r6 (ht0.trans hv0) (hGW.1.there_ 0 _ (Nat.le_refl _)) Try.sizeMail mailC_one ⟨_,rfl,trivial,⟨?_,?_,?_,?_⟩,trivial⟩
   ·exact hGW.1.setCells_ _ rfl
   ·exact (save_setCells W b6 0 _).blk hGW.2.1 (Ne.symm hne)
   ·exact below_setCells hB6 hGW.2.2.1 _ _
   ·exact hGW.2.2.2.cells _ _ (.inl fun h=>h.1 rfl) _
  | 3=>
   cases ho
   have hv1:U 1=.agg noCmd:=hp ⟨1,.data⟩ (by simp) rfl
   have ht1:=hat 1 112 kd rfl;refine wp_store_mid 47 (.tmp 7) (.tmp 112) rfl b7 0 noCmd r7 (ht1.trans hv1) (hGW.2.1.there_ 0 _ (Nat.le_refl _)) Try.sizeCmd noCmd_one ⟨_,rfl,trivial,⟨?_,?_,?_,?_⟩,trivial⟩
   ·exact (save_setCells W b7 0 _).blk hGW.1 hne
   ·exact hGW.2.1.setCells_ _ rfl
   ·exact below_setCells hB7 hGW.2.2.1 _ _
   ·exact hGW.2.2.2.cells _ _ (.inl fun h=>h.2 rfl) _
  | 4=>cases ho;exact wp_assign' (.const (.int .i64 1)) rfl ⟨_,rfl,rfl,hGW,trivial⟩
  | i+5=>exact absurd ho (by simp)
 case hend=>
  exact Y229
end
end
end
def HintS (w:World) (b6 n:Nat) (os:List OpC) (aN aE E:Int):List Value->World->Prop
 | [],W=>W=w
 | [u],W=>(∃ A' c',u=.slice A' n c'/\IntIs W (From w.heap.size) A' n c' (os.map (·.epoch)))/\Below w w W
 | [_,u],W=>u=.agg #[.int .i64 (Seam.hintN (os.map (·.epoch)) aN aE:Nat),.int .i64 (Seam.ep (os.map (·.epoch)) (Seam.hintN (os.map (·.epoch)) aN aE))]/\Below w w W
 | [_,_,_],W=>Blk W b6 30 (mailC 10 0 0 0 0 false none 0 0 ⟨#[]⟩ none 0 0 E 0 (Seam.hintN (os.map (·.epoch)) aN aE:Nat) (Seam.ep (os.map (·.epoch)) (Seam.hintN (os.map (·.epoch)) aN aE)) 0 0 none 0 0 none 0 0)/\Below b6 w W/\Kept (fun b=>b≠b6) w W
 | _,_=>False
section
variable {cs:Array Value} {good:Bool} {data:ByteArray} {E aE aN commit epoch index kind prev site term whE whN:Int} {os:List OpC} {vs:List Value} {b b11 b4 b5 b6 b7 c ec en hc hn n oc on pc pn:Nat} {S Sx:Nat->Prop} {A eA hA oA pA:O} {t:TypeId} {W w:World}
theorem HintS.kept (h:HintS w b6 n os aN aE E vs W):Kept (fun b=>b≠b6) w W:=by
 rcases vs with _|⟨u0,_|⟨u1,_|⟨u2,_|⟨u3,l⟩⟩⟩⟩
 ·exact (show W=w from h)▸Kept.refl _ _
 ·exact Kept.of _ h.2
 ·exact Kept.of _ h.2
 ·exact h.2.2
 ·exact h.elim
theorem Blk.kept_ (h:Blk w b t cs) (hk:Kept S w W) (hb:S b):Blk W b t cs:=(hk.2 b hb h.lt).trans h
theorem mhint (Q:Z) (a:Act) (hfr:Fr 128 a [(4,b4),(5,b5),(6,b6),(7,b7),(11,b11)]) (h4:Blk w b4 30 (mailC kind term index prev commit good eA en ec data hA hn hc epoch site aN aE whN whE oA on oc pA pn pc)) (h6:Blk w b6 30 (mailC 10 0 0 0 0 false none 0 0 ⟨#[]⟩ none 0 0 E 0 0 0 0 0 none 0 0 none 0 0)) (h11:Blk w b11 28 #[.slice A n c]) (ho:OpsIs w Sx A n c os) (hz:n<=4294967296) (haN:I64 aN) (n4:b4≠b6) (n11:b11≠b6) (hQ:∀ a' W,Fr 128 a' [(4,b4),(5,b5),(6,b6),(7,b7),(11,b11)]->(Blk W b6 30 (mailC 10 0 0 0 0 false none 0 0 ⟨#[]⟩ none 0 0 E 0 (Seam.hintN (os.map (·.epoch)) aN aE:Nat) (Seam.ep (os.map (·.epoch)) (Seam.hintN (os.map (·.epoch)) aN aE)) 0 0 none 0 0 none 0 0)/\Below b6 w W/\Kept (fun b=>b≠b6) w W)->Q .normal a' W) :
 (part [1,1,1,1,1,1,0,1,0,0,1,0,0] (codeOf meetF)).wp prog Q a w:=by
 have hk4':Blk w.drew b4 30 (mailC kind term index prev commit good eA en ec data hA hn hc epoch site aN aE whN whE oA on oc pA pn pc)/\b4≠b6:=⟨h4,n4⟩
 have hk6':Blk w.drew b6 30 (mailC 10 0 0 0 0 false none 0 0 ⟨#[]⟩ none 0 0 E 0 0 0 0 0 none 0 0 none 0 0)/\True:=⟨h6,trivial⟩
 have hk11':Blk w.drew b11 28 #[.slice A n c]/\b11≠b6:=⟨h11,n11⟩
 have ho':OpsIs w.drew Sx A n c os:=ho.below ⟨rfl,rfl,rfl,Nat.le_refl _,fun _ _=>rfl⟩
 have hz':n<=4294967296/\w.drew=w.drew:=⟨hz,rfl⟩
 have han':I64 aN/\w.drew=w.drew:=⟨haN,rfl⟩
 have HQ:=J (show ∀ a' W,Fr 128 a' [(4,b4),(5,b5),(6,b6),(7,b7),(11,b11)]->(Blk W b6 30 (mailC 10 0 0 0 0 false none 0 0 ⟨#[]⟩ none 0 0 E 0 (Seam.hintN (os.map (·.epoch)) aN aE:Nat) (Seam.ep (os.map (·.epoch)) (Seam.hintN (os.map (·.epoch)) aN aE)) 0 0 none 0 0 none 0 0)/\Below b6 w.drew W/\Kept (fun b=>b≠b6) w.drew W)->Q .normal a' W from fun a' W hf hh=>hQ a' W hf ⟨hh.1,⟨hh.2.1.os,hh.2.1.tape,hh.2.1.output,hh.2.1.size,hh.2.1.block⟩,hh.2.2.1,hh.2.2.2⟩)
 clear h4 h6 h11 ho hz haN n4 n11 hQ
 obtain⟨w0,hw0⟩:∃ w0,w0=w.drew:=⟨_,rfl⟩
 rw [<-hw0] at hk4' hk6' hk11' ho' hz' han' HQ
 obtain⟨HK4,HK6,HK11,HO,HZ,HAN⟩:=J6 hk4' hk6' hk11' ho' hz' han'
 clear hk4' hk6' hk11' ho' hz' han'
 refine gg hfr fun t=>?_
 generalize w=w1 at hw0 ⊢
 have HW0:=J hw0
 clear hw0
 refine wp_region_chain kr [1,8,10] (fun i=>match i with|0=>.slice A n c|2=>.pointer (some ⟨b4,11,none⟩)|3=>.pointer (some ⟨b4,11,none⟩)|4=>aN|5=>.pointer (some ⟨b4,11,none⟩)|6=>.pointer (some ⟨b4,12,none⟩)|7=>aE|9=>.pointer (some ⟨b6,11,none⟩)|_=>undef) (HintS w0 b6 n os aN aE E) (fun s i=>s==i) kr kr kr kr ?hS ?hfree ?hlink ?hend
 case hS=>exact HW0.out.symm
 case hfree=>
  intro i o F U vs W ho hni hS hlen hlim hat hoff hd
  have e4:=oo 4 b4
  have t4:=act_tmp e4
  have e6:=oo 6 b6
  have t6:=act_tmp e6
  have e11:=oo 11 b11
  have t11:=act_tmp e11
  obtain⟨qa,qb⟩:=J2 hat hd
  clear hat hoff hd
  match i with
  | 0=>
   cases ho
   have hkW:=hS.kept
   have d0:=(HK11.out.1.kept_ hkW HK11.out.2).cell 0
   exact Y127
  | 1|8|10=>
   exact Y76
  | 2|5|9=>
   exact Y51
  | 3=>
   cases ho
   have t70:=act_tmp (fev qa qb 2 70)
   exact vl ⟨rfl,rfl⟩
  | 4=>
   cases ho
   have t71:=act_tmp (fev qa qb 3 71)
   have hkW:=hS.kept
   have d0:=(HK4.out.1.kept_ hkW HK4.out.2).cell 11
   exact Y127
  | 6=>
   cases ho
   have t73:=act_tmp (fev qa qb 5 73)
   exact vl ⟨rfl,rfl⟩
  | 7=>
   cases ho
   have t74:=act_tmp (fev qa qb 6 74)
   have hkW:=hS.kept
   have d0:=(HK4.out.1.kept_ hkW HK4.out.2).cell 12
   exact Y127
  | i+11=>exact absurd ho (by simp)
 case hlink=>
  intro k i o F U vs W hk ho hS hvl hat hoff hd
  have:=ot 4 b4
  have:=ot 6 b6
  have:=ot 11 b11
  obtain⟨qa,qb⟩:=J2 hat hd
  clear hat hoff hd
  match k with
  | 0=>
   cases hk;cases ho;obtain rfl:=List.eq_nil_of_length_eq_zero hvl;have e68:=fev qa qb 0 68;have t68:=act_tmp e68;obtain rfl:=hS
   refine wp_enter' 56 #[.slice A n c] (by unfold execOp;go_simp) ?_
   refine (epochsL_any os W HO.out HZ.out.1).mono ?_
   rintro e W' ⟨g,rfl,hi,hb⟩
   exact⟨_,rfl,_,rfl,⟨_,_,rfl,hi⟩,hb⟩
  | 1=>
   cases hk;cases ho;obtain⟨u0,rfl⟩:=ln1 hvl;have e69:=cev qa qb 1 69;have t69:=act_tmp e69;have e72:=fev qa qb 4 72;have t72:=act_tmp e72;have e75:=fev qa qb 7 75;have t75:=act_tmp e75;obtain⟨⟨A',c',hu,hi⟩,hb⟩:=hS;rw [hu] at e69;have t69:=act_tmp e69
   refine wp_enter' 55 #[.slice A' n c',aN,aE] (by unfold execOp;go_simp) ?_
   refine (hint_any A' n c' (os.map (·.epoch)) W hi.1.reads (by have:=hi.2.1;have:=hi.2.2;omega) aN aE HAN.out.1).mono ?_
   rintro e W' ⟨rfl,hb'⟩
   exact⟨_,rfl,_,rfl,rfl,hb.trans (hb'.mono hb.size)⟩
  | 2=>
   cases hk;cases ho;obtain⟨u0,u1,rfl⟩:=ln2 hvl;have e77:=fev qa qb 9 77;have t77:=act_tmp e77;have e76:=cev qa qb 8 76;have t76:=act_tmp e76;obtain⟨hu,hb⟩:=hS;rw [hu] at e76;have t76:=act_tmp e76;have h6:=HK6.out.1.below hb HK6.out.1.lt;have f11:=h6.frozen;obtain⟨d11,d12⟩:=h6.cs 11 2
   refine wp_skip' ((W.setCell ⟨b6,11,none⟩ (.int .i64 (Seam.hintN (os.map (·.epoch)) aN aE:Nat))).setCell ⟨b6,12,none⟩ (.int .i64 (Seam.ep (os.map (·.epoch)) (Seam.hintN (os.map (·.epoch)) aN aE)))) (by unfold execOp;go_simp) ⟨_,rfl,(h6.set_ 11 _).set_ 12 _,((hb.mono (Nat.le_of_lt HK6.out.1.lt)).setCell (p:=⟨b6,11,none⟩) (Nat.le_refl _) _).setCell (p:=⟨b6,12,none⟩) (Nat.le_refl _) _,((Kept.of _ hb).set_ ⟨b6,11,none⟩ (.inl fun h=>h rfl) _).set_ ⟨b6,12,none⟩ (.inl fun h=>h rfl) _⟩
  | k+3=>exact absurd hk (by simp)
 case hend=>
  exact Y216
end
def ReachS (w:World) (b12 hn:Nat) (holes:List Int) (E eN eE sN sE:Int):List Value->World->Prop
 | [],W=>W=w
 | [u],W=>(∃ A' c',u=.slice A' hn c'/\IntIs W (From w.heap.size) A' hn c' holes)/\Below w w W
 | [u,_],W=>(∃ A' c',u=.slice A' hn c'/\IntIs W (From w.heap.size) A' hn c' holes)/\Blk W b12 30 (mailC 10 0 0 0 0 true none 0 0 ⟨#[]⟩ none 0 0 E 0 eN eE sN sE none 0 0 none 0 0)/\Below b12 w W/\Kept (fun b=>b≠b12) w W
 | [_,_,_],W=>(∃ A' c',Blk W b12 30 (mailC 10 0 0 0 0 true none 0 0 ⟨#[]⟩ none 0 0 E 0 eN eE sN sE A' hn c' none 0 0)/\IntIs W (From w.heap.size) A' hn c' holes)/\Below b12 w W/\Kept (fun b=>b≠b12) w W
 | _,_=>False
section
variable {E eE eN sE sN:Int} {holes:List Int} {vs:List Value} {b11 b12 b4 b5 b6 b7 hc hn:Nat} {Sx:Nat->Prop} {hA:O} {W w:World}
theorem ReachS.kept (h:ReachS w b12 hn holes E eN eE sN sE vs W):Kept (fun b=>b≠b12) w W:=by
 rcases vs with _|⟨u0,_|⟨u1,_|⟨u2,_|⟨u3,l⟩⟩⟩⟩
 ·exact (show W=w from h)▸Kept.refl _ _
 ·exact Kept.of _ h.2
 ·exact h.2.2.2
 ·exact h.2.2
 ·exact h.elim
theorem mreach (Q:Z) (a:Act) (hfr:Fr 128 a [(4,b4),(5,b5),(6,b6),(7,b7),(11,b11),(12,b12)]) (h5:Blk w b5 32 #[sN,sE,.slice hA hn hc]) (h12:Blk w b12 30 (mailC 10 0 0 0 0 true none 0 0 ⟨#[]⟩ none 0 0 E 0 eN eE 0 0 none 0 0 none 0 0)) (ho:IntIs w Sx hA hn hc holes) (hz:hn*8<=140737488351232) (n5:b5≠b12) (hQ:∀ a' W,Fr 128 a' [(4,b4),(5,b5),(6,b6),(7,b7),(11,b11),(12,b12)]->((∃ A' c',Blk W b12 30 (mailC 10 0 0 0 0 true none 0 0 ⟨#[]⟩ none 0 0 E 0 eN eE sN sE A' hn c' none 0 0)/\IntIs W (From w.heap.size) A' hn c' holes)/\Below b12 w W/\Kept (fun b=>b≠b12) w W)->Q .normal a' W) :
 (part [1,1,1,1,1,1,0,1,0,1,1,0,1,1,0] (codeOf meetF)).wp prog Q a w:=by
 have hk5':Blk w.drew b5 32 #[sN,sE,.slice hA hn hc]/\b5≠b12:=⟨h5,n5⟩
 have hk12':Blk w.drew b12 30 (mailC 10 0 0 0 0 true none 0 0 ⟨#[]⟩ none 0 0 E 0 eN eE 0 0 none 0 0 none 0 0)/\True:=⟨h12,trivial⟩
 have ho':IntIs w.drew Sx hA hn hc holes:=ho.below ⟨rfl,rfl,rfl,Nat.le_refl _,fun _ _=>rfl⟩
 have hz':hn*8<=140737488351232/\w.drew=w.drew:=⟨hz,rfl⟩
 have HQ:=J (show ∀ a' W,Fr 128 a' [(4,b4),(5,b5),(6,b6),(7,b7),(11,b11),(12,b12)]->((∃ A' c',Blk W b12 30 (mailC 10 0 0 0 0 true none 0 0 ⟨#[]⟩ none 0 0 E 0 eN eE sN sE A' hn c' none 0 0)/\IntIs W (From w.drew.heap.size) A' hn c' holes)/\Below b12 w.drew W/\Kept (fun b=>b≠b12) w.drew W)->Q .normal a' W from fun a' W hf hh=>hQ a' W hf ⟨hh.1,⟨hh.2.1.os,hh.2.1.tape,hh.2.1.output,hh.2.1.size,hh.2.1.block⟩,hh.2.2.1,hh.2.2.2⟩)
 clear h5 h12 ho hz n5 hQ
 obtain⟨w0,hw0⟩:∃ w0,w0=w.drew:=⟨_,rfl⟩
 rw [<-hw0] at hk5' hk12' ho' hz' HQ
 obtain⟨HK5,HK12,HO,HZ⟩:=J4 hk5' hk12' ho' hz'
 clear hk5' hk12' ho' hz'
 refine gg hfr fun t=>?_
 generalize w=w1 at hw0 ⊢
 have HW0:=J hw0
 clear hw0
 refine wp_region_chain kr [4,6,8] (fun i=>match i with|0=>b5|1=>.agg #[sN,sE]|2=>.pointer (some ⟨b5,2,none⟩)|3=>.slice hA hn hc|5=>.pointer (some ⟨b12,13,none⟩)|7=>.pointer (some ⟨b12,15,none⟩)|_=>undef) (ReachS w0 b12 hn holes E eN eE sN sE) (fun s i=>s==i) kr kr kr kr ?hS ?hfree ?hlink ?hend
 case hS=>exact HW0.out.symm
 case hfree=>
  intro i o F U vs W ho hni hS hlen hlim hat hoff hd
  have e5:=oo 5 b5
  have t5:=act_tmp e5
  have e12:=oo 12 b12
  have t12:=act_tmp e12
  obtain⟨qa,qb⟩:=J2 hat hd
  clear hat hoff hd
  match i with
  | 0|2|5|7=>
   exact Y51
  | 1=>
   cases ho
   have t93:=act_tmp (fev qa qb 0 93)
   have hkW:=hS.kept
   have d0:=(HK5.out.1.kept_ hkW HK5.out.2).cell 0
   have d1:=(HK5.out.1.kept_ hkW HK5.out.2).cell 1
   simp at d0 d1
   exact vl ⟨rfl,rfl⟩
  | 3=>
   cases ho
   have t95:=act_tmp (fev qa qb 2 95)
   have hkW:=hS.kept
   have d0:=(HK5.out.1.kept_ hkW HK5.out.2).cell 2
   exact Y127
  | 4|6|8=>
   exact Y76
  | i+9=>exact absurd ho (by simp)
 case hlink=>
  intro k i o F U vs W hk ho hS hvl hat hoff hd
  have:=ot 5 b5
  have:=ot 12 b12
  obtain⟨qa,qb⟩:=J2 hat hd
  clear hat hoff hd
  match k with
  | 0=>
   cases hk;cases ho;obtain rfl:=List.eq_nil_of_length_eq_zero hvl;have e96:=fev qa qb 3 96;have t96:=act_tmp e96;obtain rfl:=hS
   refine wp_enter' 61 #[.slice hA hn hc] (by unfold execOp;go_simp) ?_
   refine (cloneInts_any W HO.out HZ.out.1).mono ?_
   rintro e W' ⟨A',c',rfl,hi,hb⟩
   exact⟨_,rfl,_,rfl,⟨_,_,rfl,hi⟩,hb⟩
  | 1=>
   cases hk;cases ho;obtain⟨u0,rfl⟩:=ln1 hvl;have e98:=fev qa qb 5 98;have t98:=act_tmp e98;have e94:=fev qa qb 1 94;have t94:=act_tmp e94;obtain⟨⟨A',c',hu,hi⟩,hb⟩:=hS;have h6:=HK12.out.1.below hb HK12.out.1.lt;have f13:=h6.frozen;obtain⟨d13,d14⟩:=h6.cs 13 2;have hlt:=HK12.out.1.lt
   refine wp_skip' ((W.setCell ⟨b12,13,none⟩ (.int .i64 sN)).setCell ⟨b12,14,none⟩ (.int .i64 sE)) (by unfold execOp;go_simp) ⟨_,rfl,⟨A',c',hu,hi.kept (((Kept.refl _ _).set_ ⟨b12,13,none⟩ (.inl fun h=>absurd (show w0.heap.size<=b12 from h) (by omega)) _).set_ ⟨b12,14,none⟩ (.inl fun h=>absurd (show w0.heap.size<=b12 from h) (by omega)) _)⟩,(h6.set_ 13 _).set_ 14 _,((hb.mono (Nat.le_of_lt HK12.out.1.lt)).setCell (p:=⟨b12,13,none⟩) (Nat.le_refl _) _).setCell (p:=⟨b12,14,none⟩) (Nat.le_refl _) _,((Kept.of _ hb).set_ ⟨b12,13,none⟩ (.inl fun h=>h rfl) _).set_ ⟨b12,14,none⟩ (.inl fun h=>h rfl) _⟩
  | 2=>
   cases hk;cases ho;obtain⟨u0,u1,rfl⟩:=ln2 hvl;have e99:=fev qa qb 7 99;have t99:=act_tmp e99;have e97:=cev qa qb 4 97;have t97:=act_tmp e97;obtain⟨⟨A',c',hu,hi⟩,h6,hb,hkk⟩:=hS;rw [hu] at e97;have t97:=act_tmp e97;have f15:=h6.frozen 15;have d15:=h6.c1 15;have hlt:=HK12.out.1.lt
   refine wp_skip' (W.setCell ⟨b12,15,none⟩ (.slice A' hn c')) (by unfold execOp;go_simp) ⟨_,rfl,⟨A',c',h6.set_ 15 _,hi.kept ((Kept.refl _ _).set_ ⟨b12,15,none⟩ (.inl fun h=>absurd (show w0.heap.size<=b12 from h) (by omega)) _)⟩,hb.setCell (p:=⟨b12,15,none⟩) (Nat.le_refl _) _,hkk.set_ ⟨b12,15,none⟩ (.inl fun h=>h rfl) _⟩
  | k+3=>exact absurd hk (by simp)
 case hend=>
  exact Y216
end
def MeetR (W:World) (p:MailC×CmdC×Int):Ending->World->Prop:=fun x w'=>∃ mc cc,x=.returned (.tuple #[.agg mc,.agg cc,.int .i64 p.2.2])/\MailIs w' (From W.heap.size) mc p.1/\CmdIs w' (From W.heap.size) cc p.2.1/\Below W W w'
section
variable {good:Bool} {E N e sE sN:Int} {holes:List Int} {cs:List OpC} {c n:Nat} {S:Nat->Prop} {A:O} {w:World}
theorem ansM_is (e:Int) (good:Bool) (N E sN sE:Int) (h:IntIs w S A n c holes):MailIs w S (mailC 10 0 0 0 0 good none 0 0 ⟨#[]⟩ none 0 0 e 0 N E sN sE A n c none 0 0) (ansM e good N E sN sE holes):=
 ⟨none,0,0,none,0,0,A,n,c,none,0,0,rfl,⟨Rs.nil_ _ _ _ _,Nat.le_refl _,Nat.zero_le _⟩,⟨Rs.nil_ _ _ _ _,Nat.le_refl _,Nat.zero_le _⟩,h,OpsIs.nil_ _ _ _ _ (Nat.zero_le _)⟩
theorem ints_nil (w:World) (S:Nat->Prop):IntIs w S none 0 0 []:=⟨Rs.nil_ _ _ _ _,Nat.le_refl _,Nat.zero_le _⟩
theorem mailZ_is (w:World) (S:Nat->Prop):MailIs w S noMail mailZ:=
 ⟨none,0,0,none,0,0,none,0,0,none,0,0,rfl,⟨Rs.nil_ _ _ _ _,Nat.le_refl _,Nat.zero_le _⟩,⟨Rs.nil_ _ _ _ _,Nat.le_refl _,Nat.zero_le _⟩,⟨Rs.nil_ _ _ _ _,Nat.le_refl _,Nat.zero_le _⟩,OpsIs.nil_ _ _ _ _ (Nat.zero_le _)⟩
theorem cmdZ_is (w:World) (S:Nat->Prop):CmdIs w S noCmd cmdZ:=
 ⟨none,0,0,none,0,0,rfl,⟨Rs.nil_ _ _ _ _,Nat.le_refl _,Nat.zero_le _⟩,OpsIs.nil_ _ _ _ _ (Nat.zero_le _)⟩
theorem propC_is (m:MailC) (h:OpsIs w S A n c m.ops):CmdIs w S #[.int .i64 3,.int .i64 m.epoch,.int .i64 m.site,.int .i64 0,.int .i64 0,.int .i64 0,.int .i64 0,.int .i64 0,.int .i64 0,.string ⟨#[]⟩,.int .i64 0,.slice none 0 0,.int .i64 m.atN,.int .i64 m.atE,.slice A n c,.int .i64 0] (propC m):=
 ⟨none,0,0,A,n,c,rfl,⟨Rs.nil_ _ _ _ _,Nat.le_refl _,Nat.zero_le _⟩,h⟩
theorem ansM_ok (h1:I64 e) (h2:I64 N) (h3:I64 E) (h4:I64 sN) (h5:I64 sE) (h6:holes.length*8<=140737488351232) (h7:∀ z∈holes,I64 z):(ansM e good N E sN sE holes).Ok:=by
 have z:I64 0:=⟨by omega,by omega⟩
 exact⟨⟨by show (_:Int)<=10;omega,by show (10:Int)<=_;omega⟩,z,z,z,z,Nat.zero_le _,Nat.zero_le _,Nat.zero_le _,h1,z,h2,h3,h4,h5,h6,h7,Nat.zero_le _,fun _ hz=>(by cases hz)⟩
theorem endC_ok (h1:I64 N) (h2:I64 E) (h:∀ c∈cs,c.Ok):I64 (endC N E cs).1/\I64 (endC N E cs).2:=by
 unfold endC
 cases hg:cs.getLast? with
 | none=>exact⟨h1,h2⟩
 | some o=>
  have hm:o∈cs:=List.mem_of_getLast? hg
  exact⟨(h o hm).n,(h o hm).epoch⟩
theorem lastE_any (N E:Int) (A:O) (n c:Nat) (cs:List OpC) (w:World) (h:OpsIs w S A n c cs) (hn:n<=4294967296) :
 Calls prog 60 #[.agg #[N,E],.slice A n c] w fun x w'=>x=.returned (.agg #[.int .i64 (endC N E cs).1,.int .i64 (endC N E cs).2])/\Below w w w':=by
 obtain⟨os,h1,h2,h3,h4⟩:=h
 have hl:=h2.len
 have e:endC N E cs=lastOf N E os:=by
  unfold endC lastOf
  rw [List.getLast?_eq_getElem?,List.getLast?_eq_getElem?]
  cases ho:os[os.length-1]? with
  | none=>
   have:os.length-1 >= os.length:=by
    rcases Nat.lt_or_ge (os.length-1) os.length with h|h
    ·rw [List.getElem?_eq_getElem h] at ho;cases ho
    ·exact h
   have h0:cs.length=0:=by omega
   rw [List.eq_nil_of_length_eq_zero h0]
   rfl
  | some o=>
   obtain⟨c,hc,A,n',cap,e,_⟩:=h2.get _ _ ho
   rw [<-hl,hc]
   subst e
   rfl
 rw [e]
 exact last_any N E A n c os w h1.reads hn
end
structure Mt (W w:World) (b4 b5 b6 b7:Nat) (m:MailC) (mc:Array Value) (sN sE:Int) (jA:O) (jn jc:Nat) (holes:List Int) (ans:Array Value):Prop where
 k4:Blk w b4 30 mc
 mail:MailIs w (fun b=>b<W) mc m
 k5:Blk w b5 32 #[sN,sE,.slice jA jn jc]
 ints:IntIs w (fun b=>b<W) jA jn jc holes
 k6:Blk w b6 30 ans
 k7:Blk w b7 47 noCmd
 bel:Below W W w
 lo:W.heap.size<=b4/\b4<b5/\b5<b6/\b6<b7
section
variable {W w w':World} {b4 b5 b6 b7:Nat} {m:MailC} {mc:Array Value} {sN sE:Int} {jA:O} {jn jc:Nat} {holes:List Int} {ans:Array Value}
section
variable {ans':Array Value}
section
variable (h:Mt W w b4 b5 b6 b7 m mc sN sE jA jn jc holes ans)
include h
theorem Mt.below (hb:Below w w w'):Mt W w' b4 b5 b6 b7 m mc sN sE jA jn jc holes ans:=
 ⟨h.k4.below hb h.k4.lt,h.mail.below hb,h.k5.below hb h.k5.lt,h.ints.below hb,h.k6.below hb h.k6.lt,h.k7.below hb h.k7.lt,h.bel.trans (hb.mono h.bel.size),h.lo⟩
theorem Mt.answer (hk:Kept (fun b=>b≠b6) w w') (h6:Blk w' b6 30 ans') (hb:Below b6 w w'):Mt W w' b4 b5 b6 b7 m mc sN sE jA jn jc holes ans':=by
 have hlo:=h.lo
 have hs:=h.bel.size
 have n4:b4≠b6:=by omega
 have n5:b5≠b6:=by omega
 have n7:b7≠b6:=by omega
 have hkl:Kept (fun b=>b<W) w w':=hk.mono fun b _ hb=>by have:b<W:=hb;omega
 exact⟨h.k4.kept_ hk n4,h.mail.kept hkl,h.k5.kept_ hk n5,h.ints.kept hkl,h6,h.k7.kept_ hk n7,h.bel.trans (hb.mono (by omega)),hlo⟩
end
end
end
section
section
variable {ans cs:Array Value} {good:Bool} {E fence sE sN whE whN xE xn yE yn:Int} {holes:List Int} {os:List OpC} {m y:MailC} {b11 b12 b4 b5 b6 b7 c ec en g hc hn jc jn kc kn n oc on pc pn:Nat} {Sx Sy:Nat->Prop} {A eA hA jA kA oA pA:O} {y0 y1 y10 y11 y12 y13 y14 y15 y16 y2 y3 y4 y5 y6 y7 y8 y9:Value} {W w:World}
theorem mt5 (hE:E=if m.epoch<fence then fence else m.epoch) (Q:Z) (a:Act) (hfr:Fr 128 a [(4,b4),(5,b5),(6,b6),(7,b7),(10,fence),(11,b11)]) (h:Mt W w b4 b5 b6 b7 m (mailC m.kind m.term m.index m.prev m.commit m.good eA en ec m.data hA hn hc m.epoch m.site m.atN m.atE m.whN m.whE oA on oc pA pn pc) sN sE jA jn jc holes noMail) (hQ:∀ a' w',Fr 128 a' [(4,b4),(5,b5),(6,b6),(7,b7),(10,fence),(11,b11)]->Mt W w' b4 b5 b6 b7 m (mailC m.kind m.term m.index m.prev m.commit m.good eA en ec m.data hA hn hc m.epoch m.site m.atN m.atE m.whN m.whE oA on oc pA pn pc) sN sE jA jn jc holes (mailC 10 0 0 0 0 false none 0 0 ⟨#[]⟩ none 0 0 E 0 0 0 0 0 none 0 0 none 0 0)->Kept (fun b=>b≠b6) w w'->Q .normal a' w') :
 (part [1,1,1,1,0] (codeOf meetF)).wp prog Q a w:=by
 have c9:=h.k4.c1 9
 have hn:=h.k6.setCells_ (mailC 10 0 0 0 0 false none 0 0 ⟨#[]⟩ none 0 0 E 0 0 0 0 0 none 0 0 none 0 0).toList rfl
 have hk:Kept (fun b=>b≠b6) w (w.setCells b6 0 (mailC 10 0 0 0 0 false none 0 0 ⟨#[]⟩ none 0 0 E 0 0 0 0 0 none 0 0 none 0 0).toList):=(Kept.refl _ _).cells _ _ (.inl fun h=>h rfl) _
 have hm:=h.answer hk hn (below_setCells (Nat.le_refl _) (Below.refl _ _) _ _)
 obtain⟨HQ,HM,HK⟩:=J3 hQ hm hk
 have HT:=J (h.k6.there_ 0 17 (by show 0+17<=17;omega))
 clear hQ h hn hm hk
 refine gg hfr fun t=>?_
 by_cases hlt:m.epoch<fence
 ·obtain rfl:fence=E:=by rw [hE,if_pos hlt]
  have d1:decide (m.epoch<fence)=true:=decide_eq_true hlt
  clear hE
  go_wp2_with (refine wpList_store_mid rfl 30 (.tmp 6) (.tmp 51) rfl b6 0 (mailC 10 0 0 0 0 false none 0 0 ⟨#[]⟩ none 0 0 fence 0 0 0 0 0 none 0 0 none 0 0) rfl rfl HT.out Try.sizeMail mailC_one ?_)
  exact HQ.out _ _ ff HM.out HK.out
 ·obtain rfl:E=m.epoch:=by rw [hE,if_neg hlt]
  have d1:decide (m.epoch<fence)=false:=decide_eq_false hlt
  clear hE
  go_wp2_with (refine wpList_store_mid rfl 30 (.tmp 6) (.tmp 51) rfl b6 0 (mailC 10 0 0 0 0 false none 0 0 ⟨#[]⟩ none 0 0 m.epoch 0 0 0 0 0 none 0 0 none 0 0) rfl rfl HT.out Try.sizeMail mailC_one ?_)
  exact HQ.out _ _ ff HM.out HK.out
theorem mt13 (hz:m.ops.length<=4294967296) (Q:Z) (a:Act) (hfr:Fr 128 a [(4,b4),(5,b5),(6,b6),(7,b7),(11,b11)]) (h:Mt W w b4 b5 b6 b7 m (mailC m.kind m.term m.index m.prev m.commit m.good eA en ec m.data hA hn hc m.epoch m.site m.atN m.atE m.whN m.whE oA on oc pA pn pc) sN sE jA jn jc holes (mailC 10 0 0 0 0 false none 0 0 ⟨#[]⟩ none 0 0 E 0 0 0 0 0 none 0 0 none 0 0)) (hQ:∀ a' w',Fr 128 a' [(4,b4),(5,b5),(6,b6),(7,b7),(11,b11)]->Mt W w' b4 b5 b6 b7 m (mailC m.kind m.term m.index m.prev m.commit m.good eA en ec m.data hA hn hc m.epoch m.site m.atN m.atE m.whN m.whE oA on oc pA pn pc) sN sE jA jn jc holes (mailC 10 0 0 0 0 true none 0 0 ⟨#[]⟩ none 0 0 E 0 (endC m.atN m.atE m.ops).1 (endC m.atN m.atE m.ops).2 0 0 none 0 0 none 0 0)->Kept (fun b=>b≠b6) w w'->Q .normal a' w') :
 (part [1,1,1,1,1,1,0,1,0,1,1,0,0] (codeOf meetF)).wp prog Q a w:=by
 obtain⟨c11,c12⟩:=h.k4.cs 11 2
 have c16:=h.k4.c1 16
 obtain⟨_,_,_,_,_,_,_,_,_,xA,xn,xc,he,_,_,_,hops⟩:=h.mail
 have he2:=congrArg (fun c=>c[16]?) he
 simp at he2
 obtain⟨rfl,rfl,rfl⟩:=he2
 have hlen:=hops.len
 have HL:=J (lastE_any m.atN m.atE pA pn pc m.ops w hops (by omega))
 obtain⟨HM,HQ⟩:=J2 h hQ
 clear hQ h hops he hlen
 refine gg hfr fun t=>?_
 go_wp2_with fail
 refine HL.out.mono ?_
 rintro e w2 ⟨rfl,hb⟩
 have hm:=HM.out.below hb
 have f5:=hm.k6.frozen
 have d5:=hm.k6.c1 5
 obtain⟨d11,d12⟩:=hm.k6.cs 11 2
 have hn:=((hm.k6.set_ 5 (.bool true)).set_ 11 (.int .i64 (endC m.atN m.atE m.ops).1)).set_ 12 (.int .i64 (endC m.atN m.atE m.ops).2)
 have hk:Kept (fun b=>b≠b6) w2 (((w2.setCell ⟨b6,5,none⟩ (.bool true)).setCell ⟨b6,11,none⟩ (.int .i64 (endC m.atN m.atE m.ops).1)).setCell ⟨b6,12,none⟩ (.int .i64 (endC m.atN m.atE m.ops).2)):=(((Kept.refl _ _).set_ ⟨b6,5,none⟩ (.inl fun h=>h rfl) _).set_ ⟨b6,11,none⟩ (.inl fun h=>h rfl) _).set_ ⟨b6,12,none⟩ (.inl fun h=>h rfl) _
 have hm2:=hm.answer hk hn ((((Below.refl _ _).setCell (p:=⟨b6,5,none⟩) (Nat.le_refl _) _).setCell (p:=⟨b6,11,none⟩) (Nat.le_refl _) _).setCell (p:=⟨b6,12,none⟩) (Nat.le_refl _) _)
 have HM2:=J hm2
 have HK:=J ((Kept.of (fun b=>b≠b6) hb).trans hk)
 clear hb hm hn hk hm2
 go_wp2_with fail
 exact HQ.out _ _ ff HM2.out HK.out
section
variable (Q:Z) (a:Act)
include Q a
theorem mt14 (hfr:Fr 128 a [(4,b4),(5,b5),(6,b6),(7,b7),(11,b11)]) (h:Mt W w b4 b5 b6 b7 m (mailC m.kind m.term m.index m.prev m.commit m.good eA en ec m.data hA hn hc m.epoch m.site m.atN m.atE m.whN m.whE oA on oc pA pn pc) sN sE jA jn jc holes (mailC 10 0 0 0 0 good none 0 0 ⟨#[]⟩ none 0 0 E 0 xn xE 0 0 none 0 0 none 0 0)) (hQ:∀ a' w',Fr 128 a' [(4,b4),(5,b5),(6,b6),(7,b7),(11,b11),(12,(w:Nat))]->Blk w' w 30 (mailC 10 0 0 0 0 good none 0 0 ⟨#[]⟩ none 0 0 E 0 xn xE 0 0 none 0 0 none 0 0)->Below w w w'->Q .normal a' w') :
 (part [1,1,1,1,1,1,0,1,0,1,1,0,1,0] (codeOf meetF)).wp prog Q a w:=by
 have hr:=h.k6.range
 have hnew:=Blk.new w 30 noMail
 have hn:=hnew.setCells_ (mailC 10 0 0 0 0 good none 0 0 ⟨#[]⟩ none 0 0 E 0 xn xE 0 0 none 0 0 none 0 0).toList rfl
 have hb:Below w w ((w.alloc (.cells noMail 30)).setCells w.heap.size 0 (mailC 10 0 0 0 0 good none 0 0 ⟨#[]⟩ none 0 0 E 0 xn xE 0 0 none 0 0 none 0 0).toList):=below_setCells (Nat.le_refl _) ((Below.refl _ _).alloc (Nat.le_refl _) _) _ _
 obtain⟨HQ,HR⟩:=J2 hQ hr
 have HT:=J (hnew.there_ 0 17 (by show 0+17<=17;omega))
 obtain⟨HN,HB⟩:=J2 hn hb
 clear hQ h hn hr hb hnew
 refine gg hfr fun t=>?_
 go_wp2_with (first|refine wpList_load_mid rfl 30 (.tmp 6) rfl b6 0 rfl _ _ HR.out underlying30 rfl Try.sizeMail ?_|refine wpList_store_mid rfl 30 (.tmp 12) (.tmp 92) rfl w.heap.size 0 (mailC 10 0 0 0 0 good none 0 0 ⟨#[]⟩ none 0 0 E 0 xn xE 0 0 none 0 0 none 0 0) rfl rfl HT.out Try.sizeMail mailC_one ?_)
 exact HQ.out _ _ ff HN.out HB.out
section
variable (hfr:Fr 128 a [(4,b4),(5,b5),(6,b6),(7,b7),(11,b11),(12,b12)])
include hfr
theorem mt17 (h:Mt W w b4 b5 b6 b7 m (mailC m.kind m.term m.index m.prev m.commit m.good eA en ec m.data hA hn hc m.epoch m.site m.atN m.atE m.whN m.whE oA on oc pA pn pc) sN sE jA jn jc holes (mailC 10 0 0 0 0 true none 0 0 ⟨#[]⟩ none 0 0 E 0 xn xE 0 0 none 0 0 none 0 0)) (h12:Blk w b12 30 (mailC 10 0 0 0 0 true none 0 0 ⟨#[]⟩ none 0 0 E 0 yn yE whN whE kA kn kc none 0 0)) (hQ:∀ a' w',Fr 128 a' [(4,b4),(5,b5),(6,b6),(7,b7),(11,b11)]->Mt W w' b4 b5 b6 b7 m (mailC m.kind m.term m.index m.prev m.commit m.good eA en ec m.data hA hn hc m.epoch m.site m.atN m.atE m.whN m.whE oA on oc pA pn pc) sN sE jA jn jc holes (mailC 10 0 0 0 0 true none 0 0 ⟨#[]⟩ none 0 0 E 0 yn yE whN whE kA kn kc none 0 0)->Kept (fun b=>b≠b6) w w'->Q .normal a' w') :
 (part [1,1,1,1,1,1,0,1,0,1,1,0,1,1,1,0,1,0] (codeOf meetF)).wp prog Q a w:=by
 have hr:=h12.range
 have hn:=h.k6.setCells_ (mailC 10 0 0 0 0 true none 0 0 ⟨#[]⟩ none 0 0 E 0 yn yE whN whE kA kn kc none 0 0).toList rfl
 have hk:Kept (fun b=>b≠b6) w (w.setCells b6 0 (mailC 10 0 0 0 0 true none 0 0 ⟨#[]⟩ none 0 0 E 0 yn yE whN whE kA kn kc none 0 0).toList):=(Kept.refl _ _).cells _ _ (.inl fun h=>h rfl) _
 have hm:=h.answer hk hn (below_setCells (Nat.le_refl _) (Below.refl _ _) _ _)
 obtain⟨HQ,HR,HM,HK⟩:=J4 hQ hr hm hk
 have HT:=J (h.k6.there_ 0 17 (by show 0+17<=17;omega))
 clear hQ h hn hr hm hk h12
 refine gg hfr fun t=>?_
 go_wp2_with (first|refine wpList_load_mid rfl 30 (.tmp 12) rfl b12 0 rfl _ _ HR.out underlying30 rfl Try.sizeMail ?_|refine wpList_store_mid rfl 30 (.tmp 6) (.tmp 110) rfl b6 0 (mailC 10 0 0 0 0 true none 0 0 ⟨#[]⟩ none 0 0 E 0 yn yE whN whE kA kn kc none 0 0) rfl rfl HT.out Try.sizeMail mailC_one ?_)
 exact HQ.out _ _ ff HM.out HK.out
theorem mt16 (h:Mt W w b4 b5 b6 b7 m (mailC m.kind m.term m.index m.prev m.commit m.good eA en ec m.data hA hn hc m.epoch m.site m.atN m.atE m.whN m.whE oA on oc pA pn pc) sN sE jA jn jc holes ans) (h11:Blk w b11 28 #[.slice A n c]) (ho:OpsIs w Sx A n c os) (hz:n<=4294967296) (h12:Blk w b12 30 #[y0,y1,y2,y3,y4,y5,y6,y7,y8,y9,y10,y11,y12,y13,y14,y15,y16]) (hy:MailIs w Sy #[y0,y1,y2,y3,y4,y5,y6,y7,y8,y9,y10,y11,y12,y13,y14,y15,y16] y) (hyk:y.kind=10) (hyo:y.Ok) (hQ:∀ a' w',Fr 128 a' [(4,b4),(5,b5),(6,b6),(7,b7),(11,b11),(12,b12),(109,.bool (hasB os sN sE&&y.right10))]->Below w w w'->Q .normal a' w') :
 (part [1,1,1,1,1,1,0,1,0,1,1,0,1,1,1,0,0] (codeOf meetF)).wp prog Q a w:=by
 obtain⟨c0,c1⟩:=h.k5.cs 0 2
 have e0:=h11.c1 0
 have hba:Below w w (w.alloc (.cells #[sN,sE] 26)):=(Below.refl _ _).alloc (Nat.le_refl _) _
 have hhas:=has_any os (w.alloc (.cells #[sN,sE] 26)) (c1:=1) (ho.below hba) hz (Blk.new w 26 #[sN,sE])
 obtain⟨r1,hr1⟩:∃ r,r=hasB os sN sE:=⟨_,rfl⟩
 obtain⟨r2,hr2⟩:∃ r,r=y.right10:=⟨_,rfl⟩
 rw [<-hr1] at hhas
 rw [<-hr1,<-hr2] at hQ
 obtain⟨HHAS,HBA,HQ,H12⟩:=J4 hhas hba hQ h12
 have HCK:=J (show ∀ w',Below w w w'->Calls prog 27 #[.agg #[y0,y1,y2,y3,y4,y5,y6,y7,y8,y9,y10,y11,y12,y13,y14,y15,y16]] w' fun e w2=>e=.returned (.int .i64 (if r2 then 0 else 3))/\Below w'.heap.size w' w2 from fun w' hb=>by rw [hr2];exact check10_any _ y w' hyk (hy.below hb) hyo)
 clear hQ h h11 ho hz h12 hy hyk hyo hhas hba hr1 hr2
 refine gg hfr fun t=>?_
 go_wp2_with fail
 refine HHAS.out.mono ?_
 rintro e w2 ⟨rfl,hb⟩
 have hb2:=HBA.out.trans (hb.mono HBA.out.size)
 have hr:=H12.out.below hb2 H12.out.lt
 obtain⟨HR,HB2⟩:=J2 hr hb2
 clear hb hb2 hr
 cases r1 with
 | false=>
  exact Y180
 | true=>
  obtain⟨k0,k1,k2,k3,k4,k5,k6,k7,k8,k9,k10,k11,k12,k13,k14,k15,k16⟩:=HR.out.cs 0 17
  go_wp2_with fail
  refine (HCK.out w2 HB2.out).mono ?_
  rintro e w3 ⟨rfl,hb⟩
  clear k0 k1 k2 k3 k4 k5 k6 k7 k8 k9 k10 k11 k12 k13 k14 k15 k16
  have HB3:=J (HB2.out.trans (hb.mono HB2.out.size))
  clear hb
  cases r2 with
  | false=>
   exact Y179
  | true=>
   exact Y179
end
theorem mt9 (hfr:Fr 128 a [(4,b4),(5,b5),(6,b6),(7,b7),(11,b11)]) (h:Mt W w b4 b5 b6 b7 m (mailC m.kind m.term m.index m.prev m.commit m.good eA en ec m.data hA hn hc m.epoch m.site m.atN m.atE m.whN m.whE oA on oc pA pn pc) sN sE jA jn jc holes ans) (h11:Blk w b11 28 #[.slice A n c]) (ho:OpsIs w Sx A n c os) (hz:n<=4294967296) (hQ:∀ a' w',Fr 128 a' [(4,b4),(5,b5),(6,b6),(7,b7),(11,b11),(67,(!(hasB os m.atN m.atE)))]->Below w w w'->Q .normal a' w') :
 (part [1,1,1,1,1,1,0,1,0,0,0] (codeOf meetF)).wp prog Q a w:=by
 obtain⟨c11,c12⟩:=h.k4.cs 11 2
 have e0:=h11.c1 0
 have hba:Below w w (w.alloc (.cells #[m.atN,m.atE] 26)):=(Below.refl _ _).alloc (Nat.le_refl _) _
 have hhas:=has_any os (w.alloc (.cells #[m.atN,m.atE] 26)) (c1:=1) (ho.below hba) hz (Blk.new w 26 #[m.atN,m.atE])
 obtain⟨r1,hr1⟩:∃ r,r=hasB os m.atN m.atE:=⟨_,rfl⟩
 rw [<-hr1] at hhas hQ
 obtain⟨HHAS,HBA,HQ⟩:=J3 hhas hba hQ
 clear hQ h h11 ho hz hhas hba hr1
 refine gg hfr fun t=>?_
 go_wp2_with fail
 refine HHAS.out.mono ?_
 rintro e w2 ⟨rfl,hb⟩
 have HB2:=J (HBA.out.trans (hb.mono HBA.out.size))
 clear hb
 exact Y180
end
theorem mt12 (hpz:m.ops.length<=4294967296) (Q:Z) (a:Act) (hfr:Fr 128 a [(4,b4),(5,b5),(6,b6),(7,b7),(11,b11)]) (h:Mt W w b4 b5 b6 b7 m (mailC m.kind m.term m.index m.prev m.commit m.good eA en ec m.data hA hn hc m.epoch m.site m.atN m.atE m.whN m.whE oA on oc pA pn pc) sN sE jA jn jc holes ans) (h11:Blk w b11 28 #[.slice A n c]) (ho:OpsIs w Sx A n c os) (hz:n<=4294967296) (hQ:∀ a' w',Fr 128 a' [(4,b4),(5,b5),(6,b6),(7,b7),(11,b11),(84,.bool (m.ops.all fun o=>hasB os o.n o.epoch))]->Below w w w'->Q .normal a' w') :
 (part [1,1,1,1,1,1,0,1,0,1,0] (codeOf meetF)).wp prog Q a w:=by
 have c16:=h.k4.c1 16
 obtain⟨_,_,_,_,_,_,_,_,_,xA,xn,xc,he,_,_,_,hops⟩:=h.mail
 have he2:=congrArg (fun c=>c[16]?) he
 simp at he2
 obtain⟨rfl,rfl,rfl⟩:=he2
 have hlen:=hops.len
 have hc:=containsF_any w h11 ho hz hops (by omega)
 obtain⟨r1,hr1⟩:∃ r,r=m.ops.all fun o=>hasB os o.n o.epoch:=⟨_,rfl⟩
 rw [<-hr1] at hc hQ
 obtain⟨HC,HQ⟩:=J2 hc hQ
 clear hQ h h11 ho hz hc hr1 hops he hlen
 refine gg hfr fun t=>?_
 go_wp2_with fail
 refine HC.out.mono ?_
 rintro e w2 ⟨rfl,hb⟩
 have HB2:=J hb
 clear hb
 cases r1 with
 | true=>
  exact Y180
 | false=>
  exact Y180
theorem mt4 (Q:Z) (a:Act) (hfr:Fr 128 a [(0,g),(4,b4),(5,b5),(6,b6),(7,b7)]) (hg:Blk w g 98 cs) (h5:cs[5]? = some (.slice A n c)) (h7:cs[7]? = some (.int .i64 fence)) (ho:OpsIs w Sx A n c os) (hz:n<=4294967296) (hok:∀ o∈os,o.Ok) (hQ:∀ a' w' (b11:Nat) A' c',Fr 128 a' [(4,b4),(5,b5),(6,b6),(7,b7),(10,fence),(11,b11)]->Blk w' b11 28 #[.slice A' n c']->OpsIs w' (From w.heap.size) A' n c' os->w.heap.size<=b11->Below w w w'->Q .normal a' w') :
 (part [1,1,1,0] (codeOf meetF)).wp prog Q a w:=by
 have HF:=J (fence_any w hg h7)
 have HO:=J (opsLed_any w hg h5 ho hz hok)
 have HQ:=J hQ
 clear hQ hg h5 h7 ho hok
 refine gg hfr fun t=>?_
 go_wp2_with fail
 refine HF.out.mono ?_
 rintro e w1 ⟨rfl,rfl⟩
 go_wp2_with fail
 refine HO.out.mono ?_
 rintro e w2 ⟨A',c',rfl,hi,hb⟩
 have hb2:=hb.alloc hb.size (.cells #[.slice A' n c'] 28)
 have hi2:OpsIs (w2.alloc (.cells #[.slice A' n c'] 28)) (From w1.heap.size) A' n c' os:=hi.below ((Below.refl _ _).alloc (Nat.le_refl _) _)
 obtain⟨HB,HI,HS⟩:=J3 hb2 hi2 hb.size
 have HN:=J (Blk.new w2 28 #[.slice A' n c'])
 clear hb hb2 hi hi2
 go_wp2_with fail
 exact HQ.out _ _ _ _ _ ff HN.out HI.out HS.out HB.out
end
end
end Go.Proofs.Ytaipgdhdfpemcaa
