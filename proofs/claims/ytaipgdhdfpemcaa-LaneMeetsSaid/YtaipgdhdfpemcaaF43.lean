/- THE WALKS OF THE LANE, part 43. -/
import Derived.Test.YtaipgdhdfpemcaaF19
import Derived.Test.YtaipgdhdfpemcaaF34
import Derived.Test.YtaipgdhdfpemcaaF41
import Derived.Test.YtaipgdhdfpemcaaF42
namespace Go.Proofs.Ytaipgdhdfpemcaa
set_option linter.all false
open Go.RowKit Go.Proofs.Try
set_option maxRecDepth 100000
set_option maxHeartbeats 4000000
@[reducible] noncomputable def meetsF:Func:=Try.f3
abbrev Old (W:World):Nat->Prop:=fun q=>q<W
structure Ms (W w:World) (g rb:Nat) (Y1 Y2:Nat->Prop) (k:Nat) (os:List OpC) (fence:Int) (mc rc:Array Value):Prop where
 k4:Blk w W 30 mc
 k5:Blk w (W.heap.size+1) 32 rc
 led:LedIs w (W.heap.size+2) g Y1 k os fence
 ref:RLedIs w (W.heap.size+2) rb Y2 k os fence
 dis:∀ q,Y1 q->¬ Y2 q
 fb:0<=fence/\fence<=16
 low:Below W W w
 sz:W.heap.size+2<=w
section
variable {W w:World} {g rb:Nat} {Y1 Y2:Nat->Prop} {kk:Nat} {os:List OpC} {fence:Int} {mc rc:Array Value}
theorem Ms.below {w':World} (h:Ms W w g rb Y1 Y2 kk os fence mc rc) (hb:Below w w w'):Ms W w' g rb Y1 Y2 kk os fence mc rc:=
 ⟨h.k4.below hb h.k4.lt,h.k5.below hb h.k5.lt,h.led.below hb,h.ref.below hb,h.dis,h.fb,h.low.trans (hb.mono h.low.size),Nat.le_trans h.sz hb.size⟩
end
section
variable {mc rc:Array Value} {c:CmdC} {fence:Int} {os:List OpC} {B b b12 g hc hn k kk m1 m2 pc pn rb sc sn:Nat} {Y1 Y2:Nat->Prop} {hA pA sA:O} {W w:World}
theorem stepC_fence (h:0<=fence/\fence<=16):0<=(stepC os fence c).2/\(stepC os fence c).2<=16:=by
 unfold stepC
 by_cases h0:cmdB c=false
 ·rw [if_pos h0];exact h
 ·have hb:cmdB c=true:=by simpa using h0
  rw [if_neg h0]
  by_cases h1:c.kind=1
  ·rw [if_pos h1];exact h
  ·rw [if_neg h1]
   by_cases h3:c.kind=3
   ·rw [if_pos h3]
    have:=cmdB_ship hb h3
    split
    ·exact⟨by show 0<=c.epoch;omega,by show c.epoch<=16;omega⟩
    ·exact h
   ·rw [if_neg h3]
    by_cases h4:c.kind=4
    ·rw [if_pos h4]
     have:=cmdB_reign hb h4
     split
     ·exact h
     ·split
      ·exact h
      ·exact⟨by show 0<=c.epoch;omega,by show c.epoch<=16;omega⟩
    ·rw [if_neg h4];exact h
theorem led_new (h:FoldAt w w B g m1 m2 [] none 0 0 none 0 0 0 0 65536 64):LedIs w B g (fun q=>q=g\/q=m1\/q=m2) 0 [] 0:=by
 have hg:=h.blk.lt
 have h1:=h.live.lt
 have h2:=h.last.lt
 refine⟨?_,Rows.nil_,fun _=>False,m1,m2,none,0,0,none,0,0,0,⟨h,RowIs.nil_ _ _ _,⟨[],World.ownsRow_nil _ _ _ _⟩,id,id,id,fun q hq=>by simp [ob] at hq,fun q hq=>hq.elim⟩,?_,Nat.le_refl _⟩
 ·rintro q (rfl|rfl|rfl)
  ·exact⟨h.bg,hg⟩
  ·exact⟨h.b1,h1⟩
  ·exact⟨h.b2,h2⟩
 ·rintro q (hq|hq|hq|hq|hq)
  ·exact hq.elim
  ·exact .inl hq
  ·exact .inr (.inl hq)
  ·exact .inr (.inr hq)
  ·simp [ob] at hq
theorem ref_new (h:Blk w b 62 (rledC none 0 0 none 0 0 0 0)) (hB:B<=b):RLedIs w B b (fun q=>q=b) 0 [] 0:=by
 have hb:=h.lt
 refine⟨?_,Rows.nil_,fun _=>False,none,0,0,none,0,0,0,⟨h,RowIs.nil_ _ _ _,⟨[],World.ownsRow_nil _ _ _ _⟩,id,hB,fun q hq=>by simp [ob] at hq,fun q hq=>hq.elim⟩,?_,Nat.le_refl _⟩
 ·rintro q rfl
  exact⟨hB,hb⟩
 ·rintro q (hq|hq|hq)
  ·exact hq.elim
  ·exact hq
  ·simp [ob] at hq
section
variable (Q:Z) (a:Act) (hfr:Fr 116 a [(4,(W:Nat)),(5,(W.heap.size+1:Nat)),(7,g),(9,rb),(12,b12),(49,.slice sA sn sc),(50,.int .i64 (sn:Nat)),(51,.int .i64 (k:Nat))])
include Q a hfr
theorem ms10 (h:Ms W w g rb Y1 Y2 kk os fence mc rc) (hbx:Blk w b12 47 (cmdC c.kind c.epoch c.site c.op hA hn hc c.after c.since pA pn pc c.tag)) (hci:CmdIs w (Old W) (cmdC c.kind c.epoch c.site c.op hA hn hc c.after c.since pA pn pc c.tag) c) (hok:c.Ok) (hz:c.ops.length<=100000) (hk:kk<=900000) (n1:¬ Y1 b12) (hQ:∀ a' w' Y1' Y2',Fr 116 a' [(4,(W:Nat)),(5,(W.heap.size+1:Nat)),(7,g),(9,rb),(49,.slice sA sn sc),(50,.int .i64 (sn:Nat)),(51,.int .i64 (k:Nat))]->Ms W w' g rb Y1' Y2' (kk+80) (stepC os fence c).1 (stepC os fence c).2 mc rc->Q .normal a' w') :
 (part [1,1,1,1,0,1,0,0,1,1,0,0,1,1] (codeOf meetsF)).wp prog Q a w:=by
 have hsz:=h.sz
 have hl1:=h.led.1
 have hl2:=h.ref.1
 refine Ytaipgdhdfpemcaa.w2 ?_
 have r10:∀ (Q:Z),(∀ a' w1 w2,Fr 116 a' [(4,(W:Nat)),(5,(W.heap.size+1:Nat)),(7,g),(9,rb),(12,b12),(49,.slice sA sn sc),(50,.int .i64 (sn:Nat)),(51,.int .i64 (k:Nat))]->Below w w w1->Acted (W.heap.size+2) g Y1 (kk+80) (stepC os fence c).1 (stepC os fence c).2 w1 w2->Q .normal a' w2)->(part [1,1,1,1,0,1,0,0,1,1,0,0,1,1,0] (codeOf meetsF)).wp prog Q a w:=by
  intro Q hQ
  have HR:=J hbx.range
  have HO:=J (own11_any _ c w hci hok (by omega))
  have HA:=J (fun (w1:World) (cs:Array Value) (hc1:CmdIs w1 (From w.heap.size) cs c) (hb:Below w w w1)=>apply_any cs c (h.led.below hb) (Nat.le_trans hsz hb.size) hc1 hok (fun q hq hy=>by have:w.heap.size<=q:=hq;have:=(hl1 q hy).2;omega) hk hz)
  have HQ:=J hQ
  clear hQ h hbx hci hok hz hk n1 hl1 hl2
  refine gg hfr fun t=>?_
  go_wp2_with (refine wpList_load_mid rfl 47 (.tmp 12) rfl b12 0 rfl _ _ HR.out underlying47 rfl Try.sizeCmd ?_)
  refine HO.out.mono ?_
  rintro e w1 ⟨cs1,rfl,hc1,hb1⟩
  obtain⟨HC,HB⟩:=J2 hc1 hb1
  clear hc1 hb1
  go_wp2_with fail
  refine (HA.out w1 cs1 HC.out HB.out).mono ?_
  rintro e w2 ⟨⟨e',n',ep',rfl⟩,hact⟩
  have HACT:=J hact
  clear hact
  go_wp2_with fail
  exact HQ.out _ w1 w2 ff HB.out HACT.out
 refine r10 _ fun a1 w1 w2 hf1 hb1 hact=>?_
 clear r10
 show (part [1,1,1,1,0,1,0,0,1,1,0,0,1,1,1] (codeOf meetsF)).wp prog Q a1 w2
 obtain⟨hled,hk2,hbl⟩:=hact
 have h1:=h.below hb1
 have hs1:=h1.sz
 have hs2:=hbl.size
 have bx2:Blk w2 b12 47 (cmdC c.kind c.epoch c.site c.op hA hn hc c.after c.since pA pn pc c.tag):=(hk2.2 b12 n1 (Nat.lt_of_lt_of_le hbx.lt hb1.size)).trans (hbx.below hb1 hbx.lt)
 have hc2:=(hci.below hb1).kept (hk2.mono fun q _ hq hy=>by have:q<W:=hq;have:=(hl1 q hy).1;omega)
 have href:=h1.ref.kept (hk2.mono fun q _ hq hy=>h.dis q hy hq)
 have r11:∀ (Q:Z),(∀ a' w3,Fr 116 a' [(4,(W:Nat)),(5,(W.heap.size+1:Nat)),(7,g),(9,rb),(49,.slice sA sn sc),(50,.int .i64 (sn:Nat)),(51,.int .i64 (k:Nat))]->RActed (W.heap.size+2) rb Y2 (kk+80) (stepC os fence c).1 (stepC os fence c).2 w2 w3->Q .normal a' w3)->(part [1,1,1,1,0,1,0,0,1,1,0,0,1,1,1] (codeOf meetsF)).wp prog Q a1 w2:=by
  intro Q hQ
  have HR:=J bx2.range
  have HA:=J (rapply_any _ c href (Nat.le_trans hs1 hs2) hc2 hok (fun q hq hy=>by have:q<W:=hq;have:=(hl2 q hy).1;omega) hk hz)
  have HQ:=J hQ
  clear hQ h hbx hci hok hz hk n1 hl1 hl2 hb1 h1 hs1 hs2 bx2 hc2 href hled hk2 hbl hfr
  have hfr:=hf1
  clear hf1
  refine gg hfr fun t=>?_
  go_wp2_with (refine wpList_load_mid rfl 47 (.tmp 12) rfl b12 0 rfl _ _ HR.out underlying47 rfl Try.sizeCmd ?_)
  refine HA.out.mono ?_
  rintro e w3 ⟨⟨e',n',ep',rfl⟩,hact⟩
  have HACT:=J hact
  clear hact
  go_wp2_with fail
  exact HQ.out _ w3 ff HACT.out
 refine r11 _ fun a2 w3 hf2 ⟨href3,hk3,hbl3⟩=>?_
 have hl2':∀ q,Y2 q->q<w1:=fun q hq=>Nat.lt_of_lt_of_le (hl2 q hq).2 hb1.size
 have hl1':∀ q,Y1 q->q<w1:=fun q hq=>Nat.lt_of_lt_of_le (hl1 q hq).2 hb1.size
 refine hQ a2 w3 _ _ hf2 ⟨(h1.k4.below hbl (by omega)).below hbl3 (by omega),(h1.k5.below hbl (by omega)).below hbl3 (by omega),hled.kept (hk3.mono fun q _ hq hy=>?_),href3,fun q hq hy=>?_,stepC_fence h.fb,(h1.low.trans (hbl.mono (by omega))).trans (hbl3.mono (by omega)),by have:=hbl3.size;omega⟩
 ·rcases hq with hq|hq
  ·exact h.dis q hq hy
  ·have:=hl2' q hy;omega
 ·rcases hq with hq|hq<;>rcases hy with hy|hy
  ·exact h.dis q hq hy
  ·have:=hl1' q hq;omega
  ·have:=hl2' q hy;omega
  ·omega
theorem ms8 (hbx:Blk w b12 47 (cmdC c.kind c.epoch c.site c.op hA hn hc c.after c.since pA pn pc c.tag)) (hs:StrIs w (Old W) hA hn hc c.op.hs) (ho:OpsIs w (Old W) pA pn pc c.ops) (hok:c.Ok) (hQ:∀ a' w',Fr 116 a' [(4,(W:Nat)),(5,(W.heap.size+1:Nat)),(7,g),(9,rb),(12,b12),(49,.slice sA sn sc),(50,.int .i64 (sn:Nat)),(51,.int .i64 (k:Nat)),(63,(decide (4096<bigOf c.ops)||decide (4096<bigOf [c.op])))]->Below w w w'->Q .normal a' w') :
 (part [1,1,1,1,0,1,0,0,1,1,0,0,1,0,0] (codeOf meetsF)).wp prog Q a w:=by
 obtain⟨c3,c4,c5,c6,c7,c8,c9,c10,c11⟩:=hbx.cs 3 9
 have c14:=hbx.c1 14
 have hpl:=ho.len
 have hpz:=hok.ops
 have HG:=J (great_any pA pn pc c.ops w ho (by rw [<-hpl];exact hpz) hok.each)
 obtain⟨HX,HS,HK⟩:=J3 hbx hs hok.op
 obtain⟨r1,hr1⟩:∃ r,r=decide (4096<bigOf c.ops):=⟨_,rfl⟩
 obtain⟨r2,hr2⟩:∃ r,r=decide (4096<bigOf [c.op]):=⟨_,rfl⟩
 rw [<-hr1] at HG
 rw [<-hr1,<-hr2] at hQ
 obtain⟨HR2,HQ⟩:=J2 hr2 hQ
 clear hQ hbx hs ho hok hr1 hr2 hpl hpz
 refine gg hfr fun t=>?_
 go_wp2_with fail
 refine HG.out.mono ?_
 rintro e w1 ⟨rfl,hb1⟩
 dsimp only
 clear c3 c4 c5 c6 c7 c8 c9 c10 c11 c14
 have hx1:=HX.out.below hb1 HX.out.lt
 obtain⟨c3,c4,c5,c6,c7,c8,c9,c10,c11⟩:=hx1.cs 3 9
 have c14:=hx1.c1 14
 have hb2:Below w1 w1 (w1.alloc (.cells (oC c.op.n c.op.epoch c.op.kind c.op.site c.op.client c.op.seq c.op.name c.op.size hA hn hc) 45)):=(Below.refl _ _).alloc (Nat.le_refl _) _
 have hs2:=((HS.out.below hb1).below hb2).mono (S':=Any) fun _ _ _=>trivial
 have HG2:=J (great_any (some ⟨w1.heap.size,0,none⟩) 1 1 [c.op] _ (one_op (Blk.new w1 45 (oC c.op.n c.op.epoch c.op.kind c.op.site c.op.client c.op.seq c.op.name c.op.size hA hn hc)) hs2 trivial) (by decide) (fun x hx=>by rw [List.mem_singleton] at hx;subst hx;exact HK.out))
 rw [<-HR2.out] at HG2
 have HB1:=J hb1
 have HB2:=J (hb1.trans (hb2.mono hb1.size))
 clear hx1 hb1 hb2 hs2
 cases r1 with
 | true=>
  go_wp2_with fail
  exact HQ.out _ _ ff HB1.out
 | false=>
  go_wp2_with fail
  refine HG2.out.mono ?_
  rintro e w2 ⟨rfl,hb3⟩
  have HB3:=J (HB2.out.trans (hb3.mono HB2.out.size))
  clear hb3 c3 c4 c5 c6 c7 c8 c9 c10 c11 c14
  exact Y179
end
theorem ms7 (xs:List CmdX) (Q:Z) (a:Act) (hfr:Fr 116 a [(4,(W:Nat)),(5,(W.heap.size+1:Nat)),(7,g),(9,rb),(49,.slice sA sn sc),(50,.int .i64 (sn:Nat)),(51,.int .i64 (k:Nat))]) (hm:CmdsIs w (Old W) sA sn xs) (hk:k<sn) (hQ:∀ a' w' (x:CmdX),Fr 116 a' [(4,(W:Nat)),(5,(W.heap.size+1:Nat)),(7,g),(9,rb),(12,(w:Nat)),(49,.slice sA sn sc),(50,.int .i64 (sn:Nat)),(51,.int .i64 (k:Nat))]->Blk w' w 47 x.cells.toArray->CmdIs w' (Old W) x.cells.toArray x.c->x.c.Ok->Below w w w'->Q .normal a' w') :
 (part [1,1,1,1,0,1,0,0,1,1,0,0,0] (codeOf meetsF)).wp prog Q a w:=by
 obtain⟨ad,x,rfl,hx,hcell,hab,h16,hmi,hok⟩:=hm.at_ hk
 obtain⟨HC,H16,HMI,HOK⟩:=J4 hcell h16 hmi hok
 obtain⟨hA,hn',hc',pA,pn,pc,ecells,-⟩:=hmi
 have h1:x.cells.toArray.all (·.oneCell')=true:=by rw [ecells];exact cmdC_one
 have H1:=J h1
 have hlt:(k:Int)<(sn:Int):=by omega
 have hb0:Below w w ((w.alloc (.cells noCmd 47)).setCells w.heap.size 0 x.cells):=below_setCells (Nat.le_refl _) ((Below.refl _ _).alloc (Nat.le_refl _) _) _ _
 have hbk:Blk ((w.alloc (.cells noCmd 47)).setCells w.heap.size 0 x.cells) w.heap.size 47 x.cells.toArray:=(Blk.new w 47 noCmd).setCells_ x.cells (by rw [h16];rfl)
 obtain⟨HB,HK,HQ⟩:=J3 hb0 hbk hQ
 clear hQ hm hx hcell h16 hok ecells h1 hb0 hbk hab
 refine gg hfr fun t=>?_
 go_wp2_with (first|refine wpList_load_any rfl 47 (.tmp 53) rfl (ad.add (k*16)) rfl x.cells _ HC.out underlying47 rfl (by rw [H16.out];exact Try.sizeCmd) ?_|refine wpList_store_mid rfl 47 (.tmp 12) (.tmp 54) rfl w.heap.size 0 x.cells.toArray rfl rfl ((Blk.new w 47 noCmd).there_ 0 _ (by show 0+x.cells.toArray.size<=16;rw [List.size_toArray,H16.out];exact Nat.le_refl _)) (by rw [List.size_toArray,H16.out];exact Try.sizeCmd) H1.out ?_)
 exact HQ.out _ _ x ff HK.out (HMI.out.below HB.out) HOK.out HB.out
theorem ms6 (Q:Z) (a:Act) (hfr:Fr 116 a [(4,(W:Nat)),(5,(W.heap.size+1:Nat)),(7,g),(9,rb),(49,.slice sA sn sc),(50,.int .i64 (sn:Nat)),(51,.int .i64 (k:Nat))]) (hQ:∀ a',Fr 116 a' [(4,(W:Nat)),(5,(W.heap.size+1:Nat)),(7,g),(9,rb),(49,.slice sA sn sc),(50,.int .i64 (sn:Nat)),(51,.int .i64 (k:Nat)),(52,(decide (k<sn)))]->Q .normal a' w):(part [1,1,1,1,0,1,0,0,0] (codeOf meetsF)).wp prog Q a w:=by
 exact Y218
theorem ms12 (hk:k<4294967296) (Q:Z) (a:Act) (hfr:Fr 116 a [(4,(W:Nat)),(5,(W.heap.size+1:Nat)),(7,g),(9,rb),(49,.slice sA sn sc),(50,.int .i64 (sn:Nat)),(51,.int .i64 (k:Nat))]) (hQ:∀ a',Fr 116 a' [(4,(W:Nat)),(5,(W.heap.size+1:Nat)),(7,g),(9,rb),(49,.slice sA sn sc),(50,.int .i64 (sn:Nat)),(51,.int .i64 ((k+1:Nat):Nat))]->Q .normal a' w):(part [1,1,1,1,0,1,0,0,1,1,1] (codeOf meetsF)).wp prog Q a w:=by
 have HQ:=J hQ
 clear hQ
 refine gg hfr fun t=>?_
 go_wp2_with fail
 exact HQ.out _ ⟨rfl,rfl,rfl,rfl,rfl,rfl,rfl,rfl,by simp [at_],trivial⟩
theorem ms5 (Q:Z) (a:Act) (hfr:Fr 116 a [(0,.slice sA sn sc),(4,(W:Nat)),(5,(W.heap.size+1:Nat)),(7,g),(9,rb)]) (hQ:∀ a',Fr 116 a' [(4,(W:Nat)),(5,(W.heap.size+1:Nat)),(7,g),(9,rb),(49,.slice sA sn sc),(50,.int .i64 (sn:Nat)),(51,.int .i64 ((0:Nat):Nat))]->Q .normal a' w):(part [1,1,1,1,0,0] (codeOf meetsF)).wp prog Q a w:=by
 exact Y218
theorem ms9 (Q:Z) (hret:∀ a' w',bodyPost prog meetsF (fun e w'=>e=.returned (.bool true)/\Below W W w') .ret a' w'->Q .ret a' w') (a:Act) (hfr:Fr 116 a [(4,(W:Nat))]) (hl:Below W W w) :
 (part [1,1,1,1,0,1,0,0,1,1,0,0,1,0,1,0] (codeOf meetsF)).wp prog Q a w:=by
 obtain⟨HQ,HL⟩:=J2 hret hl
 clear hret hl
 refine gg hfr fun t=>?_
 go_wp2_with fail
 exact HQ.out _ _ (bodyPost_ret (results_tmp rfl _ _ _) rfl ⟨rfl,HL.out⟩)
end
def MsI (W:World) (g rb:Nat) (mc rc:Array Value) (sA:O) (sn sc:Nat) (a:Act) (w:World):Prop:=
 ∃ (k:Nat) (Y1 Y2:Nat->Prop) (os:List OpC) (fence:Int),k<=sn/\Fr 116 a [(4,(W:Nat)),(5,(W.heap.size+1:Nat)),(7,g),(9,rb),(49,.slice sA sn sc),(50,.int .i64 (sn:Nat)),(51,.int .i64 (k:Nat))]/\Ms W w g rb Y1 Y2 (k*80) os fence mc rc
def muMs (n:Nat) (a:Act):Nat:=n-(match at_ a.tmps 51 with|.int _ k=>k.toNat|_=>0)
theorem msloop {W w:World} {g rb:Nat} {Y1 Y2:Nat->Prop} {mc rc:Array Value} {sA:O} {sn sc:Nat} (xs:List CmdX) {Q:Z} (a:Act) (hfr:Fr 116 a [(0,.slice sA sn sc),(4,(W:Nat)),(5,(W.heap.size+1:Nat)),(7,g),(9,rb)]) (h:Ms W w g rb Y1 Y2 0 [] 0 mc rc) (hm:CmdsIs W Any sA sn xs) (hsn:sn<=100) (hret:∀ a' w',bodyPost prog meetsF (fun e w'=>e=.returned (.bool true)/\Below W W w') .ret a' w'->Q .ret a' w') (hQ:∀ a' w' Y1' Y2' kk os fence,kk<=8000->Fr 116 a' [(4,(W:Nat)),(5,(W.heap.size+1:Nat)),(7,g),(9,rb)]->Ms W w' g rb Y1' Y2' kk os fence mc rc->Q .normal a' w') :
 (part [1,1,1,1,0] (codeOf meetsF)).wp prog Q a w:=by
 have round:∀ (Q:Z) (hret:∀ a' w',bodyPost prog meetsF (fun e w'=>e=.returned (.bool true)/\Below W W w') .ret a' w'->Q .ret a' w') (hexit:∀ a' w' Y1' Y2' kk os fence,kk<=8000->Fr 116 a' [(4,(W:Nat)),(5,(W.heap.size+1:Nat)),(7,g),(9,rb)]->Ms W w' g rb Y1' Y2' kk os fence mc rc->Q (.exit 0) a' w')
  (a:Act) (w:World),MsI W g rb mc rc sA sn sc a w->(∀ a' w',MsI W g rb mc rc sA sn sc a' w'/\muMs sn a'<muMs sn a->Q .normal a' w')->(part [1,1,1,1,0,1,0,0] (codeOf meetsF)).wp prog Q a w:=by
  intro Q hret hexit a w ⟨k,Y1,Y2,os,fence,hk,hf,h⟩ hQ
  have hmu:at_ a.tmps 51=.int .i64 (k:Nat):=hf.2.2.2.2.2.2.2.2.1
  refine Ytaipgdhdfpemcaa.w2 ?_
  refine ms6 _ a hf fun a1 hf1=>?_
  show (part [1,1,1,1,0,1,0,0,1] (codeOf meetsF)).wp prog _ a1 w
  refine Ytaipgdhdfpemcaa.w2 ?_
  obtain⟨hd,hs,f4,f5,f7,f9,f49,f50,f51,f52,-⟩:=hf1
  refine wp_if (o:=.tmp 52) (x:=part [1,1,1,1,0,1,0,0,1,0,0] (codeOf meetsF)) (y:=part [1,1,1,1,0,1,0,0,1,0,1] (codeOf meetsF)) (t:=decide (k<sn)) kr (eval_at f52 rfl) ?_ ?_
  ·intro ht
   have hk1:k<sn:=of_decide_eq_true ht
   refine wp_nop kr ?_
   show (part [1,1,1,1,0,1,0,0,1,1] (codeOf meetsF)).wp prog Q a1 w
   refine Ytaipgdhdfpemcaa.w2 ?_
   refine wp_blk (x:=part [1,1,1,1,0,1,0,0,1,1,0,0] (codeOf meetsF)) (id:=1) kr ?_
   refine Ytaipgdhdfpemcaa.w2 ?_
   have hcs:CmdsIs w (Old W) sA sn xs:=(hm.mono (S':=Old W) fun q hq _=>hq).below h.low
   refine ms7 xs _ a1 ⟨hd,hs,f4,f5,f7,f9,f49,f50,f51,trivial⟩ hcs hk1 fun a2 w2 x hf2 hbx hci hok hb2=>?_
   show (part [1,1,1,1,0,1,0,0,1,1,0,0,1] (codeOf meetsF)).wp prog _ a2 w2
   have h2:=h.below hb2
   obtain⟨hA,hn,hc,pA,pn,pc,ecells,hst,hop⟩:=id hci
   rw [ecells] at hbx hci
   refine Ytaipgdhdfpemcaa.w2 ?_
   refine Ytaipgdhdfpemcaa.w2 ?_
   refine ms8 _ a2 hf2 hbx hst hop hok fun a3 w3 hf3 hb3=>?_
   show (part [1,1,1,1,0,1,0,0,1,1,0,0,1,0,1] (codeOf meetsF)).wp prog _ a3 w3
   have h3:=h2.below hb3
   have hbx3:=hbx.below hb3 hbx.lt
   have hci3:=hci.below hb3
   obtain⟨hd3,hs3,g4,g5,g7,g9,g49,g50,g51,g12,g63,-⟩:=hf3
   refine wp_if (o:=.tmp 63) (x:=part [1,1,1,1,0,1,0,0,1,1,0,0,1,0,1,0] (codeOf meetsF)) (y:=part [1,1,1,1,0,1,0,0,1,1,0,0,1,0,1,1] (codeOf meetsF)) (t:=decide (4096<bigOf x.c.ops)||decide (4096<bigOf [x.c.op])) kr (eval_at g63 rfl) ?_ ?_
   ·intro _
    exact ms9 _ (by exact fun a' w' hq=>hret a' w' hq) a3 ⟨hd3,hs3,g4,trivial⟩ h3.low
   ·intro hbig
    refine wp_nop kr ?_
    show (part [1,1,1,1,0,1,0,0,1,1,0,0,1,1] (codeOf meetsF)).wp prog _ a3 w3
    have hops:¬ 4096<bigOf x.c.ops:=by
     intro hh
     rw [decide_eq_true hh] at hbig
     cases hbig
    have hlen:=bigOf_len x.c.ops
    have hyl1:=h.led.1
    refine ms10 _ a3 ⟨hd3,hs3,g4,g5,g7,g9,g49,g50,g51,g12,trivial⟩ h3 hbx3 hci3 hok (by omega) (by omega) (fun hy=>by have:=(hyl1 _ hy).2;omega) fun a4 w4 Y1' Y2' hf4 h4=>?_
    show (part [1,1,1,1,0,1,0,0,1,1,1] (codeOf meetsF)).wp prog Q a4 w4
    refine ms12 (by omega) _ a4 hf4 fun a5 hf5=>hQ a5 w4 ⟨⟨k+1,Y1',Y2',_,_,hk1,hf5,by rw [Nat.succ_mul];exact h4⟩,?_⟩
    have e2:at_ a5.tmps 51=.int .i64 ((k+1:Nat):Nat):=hf5.2.2.2.2.2.2.2.2.1
    unfold muMs
    rw [hmu,e2]
    exact Y114
  ·intro ht
   have e:part [1,1,1,1,0,1,0,0,1,0,1] (codeOf meetsF)=Code.exit 0:=by kernel_rfl
   rw [e]
   exact wp_exit (hexit a1 w Y1 Y2 (k*80) os fence (by omega) ⟨hd,hs,f4,f5,f7,f9,trivial⟩ h)
 refine Ytaipgdhdfpemcaa.w2 ?_
 refine ms5 _ a hfr fun a1 hf1=>?_
 show (part [1,1,1,1,0,1] (codeOf meetsF)).wp prog Q a1 w
 refine wp_blk (x:=part [1,1,1,1,0,1,0] (codeOf meetsF)) (id:=0) kr ?_
 have el:part [1,1,1,1,0,1,0] (codeOf meetsF)=Code.loop (part [1,1,1,1,0,1,0,0] (codeOf meetsF)):=by kernel_rfl
 rw [el]
 refine wp_loop (MsI W g rb mc rc sA sn sc) (fun a _=>muMs sn a) ⟨0,Y1,Y2,[],0,Nat.zero_le _,hf1,by rw [Nat.zero_mul];exact h⟩ fun a2 w2 hI=>?_
 refine round _ ?_ ?_ a2 w2 hI ?_
 ·exact fun a' w' hq=>hret a' w' hq
 ·exact fun a' w' Y1' Y2' kk os fence hkk hf h=>hQ a' w' Y1' Y2' kk os fence hkk hf h
 ·exact fun a' w' hh=>hh
section
variable {o:Oper} {a:Act} {w wx:World} {K:Act->World->Prop} {Q:Z} {b:Nat} {cs:Array Value} {S:Nat->Prop}
section
variable {c:CmdC} {m:MailC}
theorem wp_load_mail (x:Operand) (ho:o.op=.load 30 x) (hx:a.eval x=.pointer (some ⟨b,0,none⟩)) (hb:Blk w b 30 cs) (hm:MailIs wx S cs m) (hk:K (a.put o.dst (.agg cs)) w):o.wp prog a w K Q:=by
 obtain⟨eA,en,ec,hA,hn,hc,oA,on,oc,pA,pn,pc,rfl,_⟩:=hm
 exact wp_load_mid 30 x ho b 0 hx _ _ hb.range underlying30 rfl Try.sizeMail hk
theorem wp_load_cmd (x:Operand) (ho:o.op=.load 47 x) (hx:a.eval x=.pointer (some ⟨b,0,none⟩)) (hb:Blk w b 47 cs) (hm:CmdIs wx S cs c) (hk:K (a.put o.dst (.agg cs)) w):o.wp prog a w K Q:=by
 obtain⟨hA,hn,hc,pA,pn,pc,rfl,_⟩:=hm
 exact wp_load_mid 47 x ho b 0 hx _ _ hb.range underlying47 rfl Try.sizeCmd hk
theorem wp_store_mail (x v:Operand) (ho:o.op=.store 30 x v) (hx:a.eval x=.pointer (some ⟨b,0,none⟩)) (hv:a.eval v=.agg cs) (hb:Blk w b 30 noMail) (hm:MailIs wx S cs m) (hk:Blk (w.setCells b 0 cs.toList) b 30 cs->K (a.put o.dst undef) (w.setCells b 0 cs.toList)):o.wp prog a w K Q:=by
 obtain⟨eA,en,ec,hA,hn,hc,oA,on,oc,pA,pn,pc,rfl,_⟩:=hm
 exact wp_store_mid 30 x v ho b 0 _ hx hv (hb.there_ 0 _ (Nat.le_refl _)) Try.sizeMail mailC_one (hk (hb.setCells_ _ rfl))
theorem wp_store_cmd (x v:Operand) (ho:o.op=.store 47 x v) (hx:a.eval x=.pointer (some ⟨b,0,none⟩)) (hv:a.eval v=.agg cs) (hb:Blk w b 47 noCmd) (hm:CmdIs wx S cs c) (hk:Blk (w.setCells b 0 cs.toList) b 47 cs->K (a.put o.dst undef) (w.setCells b 0 cs.toList)):o.wp prog a w K Q:=by
 obtain⟨hA,hn,hc,pA,pn,pc,rfl,_⟩:=hm
 exact wp_store_mid 47 x v ho b 0 _ hx hv (hb.there_ 0 _ (Nat.le_refl _)) Try.sizeCmd cmdC_one (hk (hb.setCells_ _ rfl))
end
end
def Sx (N0:Nat) (L:Nat->Bool) (U:Nat->Value):Nat->Prop:=fun q=>N0<=q/\(L 9=true->U 9≠.pointer (some ⟨q,0,none⟩))/\(L 10=true->U 10≠.pointer (some ⟨q,0,none⟩))
structure Z14 (w0:World) (g:Nat) (mc rc:Array Value) (m:MailC) (p:MailC×CmdC×Int) (L:Nat->Bool) (U:Nat->Value) (W:World) (mc1 cc1:Array Value):Prop where
 low:Below w0 w0 W
 c4:L 4=true->L 2=true
 c5:L 5=true->L 4=true
 c6:L 6=true->L 5=true
 c7:L 7=true->L 5=true
 c8:L 8=true->L 5=true
 c11:L 11=true->L 6=true/\L 9=true
 c12:L 12=true->L 7=true/\L 10=true
 c13:L 13=true->L 8=true
 v0:L 0=true->U 0=.pointer (some ⟨g,0,none⟩)
 v1:L 1=true->U 1=.agg mc
 v2:L 2=true->L 4=false->∃ cs,U 2=.agg cs/\MailIs W (From w0.heap.size) cs m
 v3:L 3=true->U 3=.agg rc
 v4:L 4=true->U 4=.tuple #[.agg mc1,.agg cc1,.int .i64 p.2.2]/\MailIs W (Sx w0.heap.size L U) mc1 p.1/\CmdIs W (Sx w0.heap.size L U) cc1 p.2.1
 v5:L 5=true->U 5=.tuple #[.agg mc1,.agg cc1,.int .i64 p.2.2]
 v6:L 6=true->U 6=.agg mc1
 v7:L 7=true->U 7=.agg cc1
 v8:L 8=true->U 8=.int .i64 p.2.2
 v9:L 9=true->∃ q,U 9=.pointer (some ⟨q,0,none⟩)/\w0.heap.size<=q/\Blk W q 30 (if L 11=true then mc1 else noMail)
 v10:L 10=true->∃ q,U 10=.pointer (some ⟨q,0,none⟩)/\w0.heap.size<=q/\Blk W q 47 (if L 12=true then cc1 else noCmd)
 v13:L 13=true->U 13=.int .i64 p.2.2
section
variable {w0:World} {g:Nat} {mc rc:Array Value} {m:MailC} {p:MailC×CmdC×Int} {L:Nat->Bool} {U:Nat->Value} {W W':World} {mc1 cc1:Array Value}
section
variable {cc2 mc2:Array Value} {i j q:Nat} {v:Value}
theorem setL_ne {L:Nat->Bool} (h:j≠i):setL L i j=L j:=if_neg h
theorem updU_ne {U:Nat->Value} (h:j≠i):updU U i v j=U j:=if_neg h
theorem setL_eq {L:Nat->Bool}:setL L i i=true:=if_pos rfl
theorem updU_eq {U:Nat->Value}:updU U i v i=v:=if_pos rfl
section
variable (h:Z14 w0 g mc rc m p L U W mc1 cc1)
include h
theorem Z14.upd (i:Nat) (v:Value) (hb:Below W W W') (hi:i≠4/\i≠9/\i≠10/\i≠11/\i≠12) (hL:L i=false) (e0:i=0->v=.pointer (some ⟨g,0,none⟩)) (e1:i=1->v=.agg mc) (e2:i=2->∃ cs,v=.agg cs/\MailIs W' (From w0.heap.size) cs m) (e3:i=3->v=.agg rc) (e5:i=5->L 4=true/\v=.tuple #[.agg mc1,.agg cc1,.int .i64 p.2.2]) (e6:i=6->L 5=true/\v=.agg mc1) (e7:i=7->L 5=true/\v=.agg cc1) (e8:i=8->L 5=true/\v=.int .i64 p.2.2) (e13:i=13->L 8=true/\v=.int .i64 p.2.2) :
 Z14 w0 g mc rc m p (setL L i) (updU U i v) W' mc1 cc1:=by
 obtain⟨i4,i9,i10,i11,i12⟩:=hi
 have l4:setL L i 4=L 4:=setL_ne (Ne.symm i4)
 have l9:setL L i 9=L 9:=setL_ne (Ne.symm i9)
 have l10:setL L i 10=L 10:=setL_ne (Ne.symm i10)
 have l11:setL L i 11=L 11:=setL_ne (Ne.symm i11)
 have l12:setL L i 12=L 12:=setL_ne (Ne.symm i12)
 have u4:updU U i v 4=U 4:=updU_ne (Ne.symm i4)
 have u9:updU U i v 9=U 9:=updU_ne (Ne.symm i9)
 have u10:updU U i v 10=U 10:=updU_ne (Ne.symm i10)
 have hsx:Sx w0.heap.size (setL L i) (updU U i v)=Sx w0.heap.size L U:=by
  unfold Sx
  rw [l9,l10,u9,u10]
 have up:∀ j,L j=true->setL L i j=true:=fun j hj=>by
  by_cases hji:j=i
  ·rw [hji];exact setL_eq
  ·rw [setL_ne hji];exact hj
 have val:∀ (j:Nat) (P:Value->Prop),(L j=true->P (U j))->(i=j->P v)->setL L i j=true->P (updU U i v j):=fun j P h1 h2 hj=>by
  by_cases hji:j=i
  ·subst hji;rw [updU_eq];exact h2 rfl
  ·rw [updU_ne hji];rw [setL_ne hji] at hj;exact h1 hj
 have cl:∀ (j:Nat) (P:Prop),(L j=true->P)->(i=j->P)->setL L i j=true->P:=fun j P h1 h2 hj=>by
  by_cases hji:j=i
  ·exact h2 hji.symm
  ·rw [setL_ne hji] at hj;exact h1 hj
 refine⟨h.low.trans (hb.mono h.low.size),?_,?_,?_,?_,?_,?_,?_,?_,?_,?_,?_,?_,?_,?_,?_,?_,?_,?_,?_,?_⟩
 ·rw [l4];exact fun hh=>up 2 (h.c4 hh)
 ·rw [l4];exact cl 5 _ h.c5 fun e=>(e5 e).1
 ·exact cl 6 _ (fun hh=>up 5 (h.c6 hh)) fun e=>up 5 (e6 e).1
 ·exact cl 7 _ (fun hh=>up 5 (h.c7 hh)) fun e=>up 5 (e7 e).1
 ·exact cl 8 _ (fun hh=>up 5 (h.c8 hh)) fun e=>up 5 (e8 e).1
 ·rw [l11];exact fun hh=>⟨up 6 (h.c11 hh).1,up 9 (h.c11 hh).2⟩
 ·rw [l12];exact fun hh=>⟨up 7 (h.c12 hh).1,up 10 (h.c12 hh).2⟩
 ·exact cl 13 _ (fun hh=>up 8 (h.c13 hh)) fun e=>up 8 (e13 e).1
 ·exact val 0 (fun u=>u=_) h.v0 e0
 ·exact val 1 (fun u=>u=_) h.v1 e1
 ·rw [l4]
  exact val 2 (fun u=>L 4=false->∃ cs,u=.agg cs/\MailIs W' (From w0.heap.size) cs m) (fun hh h4=>by
   obtain⟨cs,h1,h2⟩:=h.v2 hh h4
   exact⟨cs,h1,h2.below hb⟩) fun e _=>e2 e
 ·exact val 3 (fun u=>u=_) h.v3 e3
 ·rw [l4,u4,hsx]
  exact fun hh=>⟨(h.v4 hh).1,(h.v4 hh).2.1.below hb,(h.v4 hh).2.2.below hb⟩
 ·exact val 5 (fun u=>u=_) h.v5 fun e=>(e5 e).2
 ·exact val 6 (fun u=>u=_) h.v6 fun e=>(e6 e).2
 ·exact val 7 (fun u=>u=_) h.v7 fun e=>(e7 e).2
 ·exact val 8 (fun u=>u=_) h.v8 fun e=>(e8 e).2
 ·rw [l9,u9,l11]
  intro hh
  obtain⟨q,h1,h2,h3⟩:=h.v9 hh
  exact Y203
 ·rw [l10,u10,l12]
  intro hh
  obtain⟨q,h1,h2,h3⟩:=h.v10 hh
  exact Y203
 ·exact val 13 (fun u=>u=_) h.v13 fun e=>(e13 e).2
theorem Z14.met (hb:Below W W W') (hL:L 4=false) (h2:L 2=true) (hm:MailIs W' (From W.heap.size) mc2 p.1) (hc:CmdIs W' (From W.heap.size) cc2 p.2.1) :
 Z14 w0 g mc rc m p (setL L 4) (updU U 4 (.tuple #[.agg mc2,.agg cc2,.int .i64 p.2.2])) W' mc2 cc2:=by
 have f5:L 5=false:=by cases hx:L 5 with|false=>rfl|true=>rw [h.c5 hx] at hL;cases hL
 have f6:L 6=false:=by cases hx:L 6 with|false=>rfl|true=>rw [h.c6 hx] at f5;cases f5
 have f7:L 7=false:=by cases hx:L 7 with|false=>rfl|true=>rw [h.c7 hx] at f5;cases f5
 have f8:L 8=false:=by cases hx:L 8 with|false=>rfl|true=>rw [h.c8 hx] at f5;cases f5
 have f11:L 11=false:=by cases hx:L 11 with|false=>rfl|true=>rw [(h.c11 hx).1] at f6;cases f6
 have f12:L 12=false:=by cases hx:L 12 with|false=>rfl|true=>rw [(h.c12 hx).1] at f7;cases f7
 have f13:L 13=false:=by cases hx:L 13 with|false=>rfl|true=>rw [h.c13 hx] at f8;cases f8
 have hs:=h.low.size
 have hx:∀ q,From W.heap.size q->Sx w0.heap.size (setL L 4) (updU U 4 (.tuple #[.agg mc2,.agg cc2,.int .i64 p.2.2])) q:=fun q hq=>by
  have hq':W.heap.size<=q:=hq
  refine⟨Nat.le_trans hs hq',fun h9=>?_,fun h10=>?_⟩
  ·rw [setL_ne (by decide)] at h9
   rw [updU_ne (by decide)]
   obtain⟨q9,e,_,k⟩:=h.v9 h9
   exact Y168
  ·rw [setL_ne (by decide)] at h10
   rw [updU_ne (by decide)]
   obtain⟨q9,e,_,k⟩:=h.v10 h10
   exact Y168
 refine⟨h.low.trans (hb.mono hs),?_,?_,?_,?_,?_,?_,?_,?_,?_,?_,?_,?_,?_,?_,?_,?_,?_,?_,?_,?_⟩
 ·intro _;rw [setL_ne (by decide)];exact h2
 ·intro _;exact setL_eq
 ·rw [setL_ne (by decide),f6];intro e;cases e
 ·rw [setL_ne (by decide),f7];intro e;cases e
 ·rw [setL_ne (by decide),f8];intro e;cases e
 ·rw [setL_ne (by decide),f11];intro e;cases e
 ·rw [setL_ne (by decide),f12];intro e;cases e
 ·rw [setL_ne (by decide),f13];intro e;cases e
 ·rw [setL_ne (by decide),updU_ne (by decide)];exact h.v0
 ·rw [setL_ne (by decide),updU_ne (by decide)];exact h.v1
 ·intro _ e;rw [setL_eq] at e;cases e
 ·rw [setL_ne (by decide),updU_ne (by decide)];exact h.v3
 ·intro _
  exact⟨updU_eq,hm.mono fun q _ hq=>hx q hq,hc.mono fun q _ hq=>hx q hq⟩
 ·rw [setL_ne (by decide),f5];intro e;cases e
 ·rw [setL_ne (by decide),f6];intro e;cases e
 ·rw [setL_ne (by decide),f7];intro e;cases e
 ·rw [setL_ne (by decide),f8];intro e;cases e
 ·rw [setL_ne (show 9≠4 by decide),setL_ne (show 11≠4 by decide),updU_ne (by decide),f11]
  intro hh
  obtain⟨q,h1,h2,h3⟩:=h.v9 hh
  rw [f11] at h3
  exact Y203
 ·rw [setL_ne (show 10≠4 by decide),setL_ne (show 12≠4 by decide),updU_ne (by decide),f12]
  intro hh
  obtain⟨q,h1,h2,h3⟩:=h.v10 hh
  rw [f12] at h3
  exact Y203
 ·rw [setL_ne (by decide),f13];intro e;cases e
theorem Z14.box9 (hL:L 9=false) :
 Z14 w0 g mc rc m p (setL L 9) (updU U 9 (.pointer (some ⟨W.heap.size,0,none⟩))) (W.alloc (.cells noMail 30)) mc1 cc1:=by
 have hb:Below W W (W.alloc (.cells noMail 30)):=(Below.refl _ _).alloc (Nat.le_refl _) _
 have hs:=h.low.size
 have f11:L 11=false:=by cases hx:L 11 with|false=>rfl|true=>rw [(h.c11 hx).2] at hL;cases hL
 have hx:∀ q,q<W.heap.size->Sx w0.heap.size L U q->Sx w0.heap.size (setL L 9) (updU U 9 (.pointer (some ⟨W.heap.size,0,none⟩))) q:=fun q hq hh=>by
  refine⟨hh.1,?_,?_⟩
  ·intro _
   exact Y173
  ·intro hj
   rw [updU_ne (show 10≠9 by decide)]
   rw [setL_ne (show 10≠9 by decide)] at hj
   exact hh.2.2 hj
 refine⟨h.low.trans (hb.mono hs),?_,?_,?_,?_,?_,?_,?_,?_,?_,?_,?_,?_,?_,?_,?_,?_,?_,?_,?_,?_⟩
 ·rw [setL_ne (by decide),setL_ne (by decide)];exact h.c4
 ·rw [setL_ne (by decide),setL_ne (by decide)];exact h.c5
 ·rw [setL_ne (by decide),setL_ne (by decide)];exact h.c6
 ·rw [setL_ne (by decide),setL_ne (by decide)];exact h.c7
 ·rw [setL_ne (by decide),setL_ne (by decide)];exact h.c8
 ·rw [setL_ne (show 11≠9 by decide),f11];intro e;cases e
 ·rw [setL_ne (show 12≠9 by decide),setL_ne (show 7≠9 by decide),setL_ne (show 10≠9 by decide)];exact h.c12
 ·rw [setL_ne (by decide),setL_ne (by decide)];exact h.c13
 ·rw [setL_ne (by decide),updU_ne (by decide)];exact h.v0
 ·rw [setL_ne (by decide),updU_ne (by decide)];exact h.v1
 ·rw [setL_ne (show 2≠9 by decide),setL_ne (show 4≠9 by decide),updU_ne (show 2≠9 by decide)]
  intro h2 h4
  obtain⟨cs,k1,k2⟩:=h.v2 h2 h4
  exact⟨cs,k1,k2.below hb⟩
 ·rw [setL_ne (by decide),updU_ne (by decide)];exact h.v3
 ·rw [setL_ne (show 4≠9 by decide),updU_ne (show 4≠9 by decide)]
  exact Y146
 ·rw [setL_ne (by decide),updU_ne (by decide)];exact h.v5
 ·rw [setL_ne (by decide),updU_ne (by decide)];exact h.v6
 ·rw [setL_ne (by decide),updU_ne (by decide)];exact h.v7
 ·rw [setL_ne (by decide),updU_ne (by decide)];exact h.v8
 ·rw [setL_ne (show 11≠9 by decide),f11]
  intro _
  exact⟨W.heap.size,updU_eq,hs,Blk.new W _ _⟩
 ·rw [setL_ne (show 10≠9 by decide),setL_ne (show 12≠9 by decide),updU_ne (show 10≠9 by decide)]
  intro hh
  obtain⟨q,k1,k2,k3⟩:=h.v10 hh
  exact⟨q,k1,k2,k3.below hb k3.lt⟩
 ·rw [setL_ne (by decide),updU_ne (by decide)];exact h.v13
theorem Z14.box10 (hL:L 10=false) :
 Z14 w0 g mc rc m p (setL L 10) (updU U 10 (.pointer (some ⟨W.heap.size,0,none⟩))) (W.alloc (.cells noCmd 47)) mc1 cc1:=by
 have hb:Below W W (W.alloc (.cells noCmd 47)):=(Below.refl _ _).alloc (Nat.le_refl _) _
 have hs:=h.low.size
 have f12:L 12=false:=by cases hx:L 12 with|false=>rfl|true=>rw [(h.c12 hx).2] at hL;cases hL
 have hx:∀ q,q<W.heap.size->Sx w0.heap.size L U q->Sx w0.heap.size (setL L 10) (updU U 10 (.pointer (some ⟨W.heap.size,0,none⟩))) q:=fun q hq hh=>by
  refine⟨hh.1,?_,?_⟩
  ·intro hj
   rw [updU_ne (show 9≠10 by decide)]
   rw [setL_ne (show 9≠10 by decide)] at hj
   exact hh.2.1 hj
  ·intro _
   exact Y173
 refine⟨h.low.trans (hb.mono hs),?_,?_,?_,?_,?_,?_,?_,?_,?_,?_,?_,?_,?_,?_,?_,?_,?_,?_,?_,?_⟩
 ·rw [setL_ne (by decide),setL_ne (by decide)];exact h.c4
 ·rw [setL_ne (by decide),setL_ne (by decide)];exact h.c5
 ·rw [setL_ne (by decide),setL_ne (by decide)];exact h.c6
 ·rw [setL_ne (by decide),setL_ne (by decide)];exact h.c7
 ·rw [setL_ne (by decide),setL_ne (by decide)];exact h.c8
 ·rw [setL_ne (show 11≠10 by decide),setL_ne (show 6≠10 by decide),setL_ne (show 9≠10 by decide)];exact h.c11
 ·rw [setL_ne (show 12≠10 by decide),f12];intro e;cases e
 ·rw [setL_ne (by decide),setL_ne (by decide)];exact h.c13
 ·rw [setL_ne (by decide),updU_ne (by decide)];exact h.v0
 ·rw [setL_ne (by decide),updU_ne (by decide)];exact h.v1
 ·rw [setL_ne (show 2≠10 by decide),setL_ne (show 4≠10 by decide),updU_ne (show 2≠10 by decide)]
  intro h2 h4
  obtain⟨cs,k1,k2⟩:=h.v2 h2 h4
  exact⟨cs,k1,k2.below hb⟩
 ·rw [setL_ne (by decide),updU_ne (by decide)];exact h.v3
 ·rw [setL_ne (show 4≠10 by decide),updU_ne (show 4≠10 by decide)]
  exact Y146
 ·rw [setL_ne (by decide),updU_ne (by decide)];exact h.v5
 ·rw [setL_ne (by decide),updU_ne (by decide)];exact h.v6
 ·rw [setL_ne (by decide),updU_ne (by decide)];exact h.v7
 ·rw [setL_ne (by decide),updU_ne (by decide)];exact h.v8
 ·rw [setL_ne (show 9≠10 by decide),setL_ne (show 11≠10 by decide),updU_ne (show 9≠10 by decide)]
  intro hh
  obtain⟨q,k1,k2,k3⟩:=h.v9 hh
  exact⟨q,k1,k2,k3.below hb k3.lt⟩
 ·rw [setL_ne (show 12≠10 by decide),f12]
  intro _
  exact⟨W.heap.size,updU_eq,hs,Blk.new W _ _⟩
 ·rw [setL_ne (by decide),updU_ne (by decide)];exact h.v13
theorem Z14.put11 (hb:L 9=true) (hs:L 6=true) (hq:U 9=.pointer (some ⟨q,0,none⟩)) (hk:Blk (W.setCells q 0 mc1.toList) q 30 mc1) :
 Z14 w0 g mc rc m p (setL L 11) (updU U 11 undef) (W.setCells q 0 mc1.toList) mc1 cc1:=by
 obtain⟨q',e1,e2,e3⟩:=h.v9 hb
 rw [hq] at e1
 obtain rfl:q=q':=by injection e1 with e1;injection e1 with e1;injection e1
 have t4:=h.c5 (h.c6 hs)
 have hne:¬ Sx w0.heap.size L U q:=fun hx=>hx.2.1 hb hq
 have hkp:Kept (Sx w0.heap.size L U) W (W.setCells q 0 mc1.toList):=(Kept.refl _ _).cells q 0 (.inl hne) _
 have hsx:Sx w0.heap.size (setL L 11) (updU U 11 undef)=Sx w0.heap.size L U:=by
  unfold Sx
  rw [setL_ne (show 9≠11 by decide),setL_ne (show 10≠11 by decide),updU_ne (show 9≠11 by decide),updU_ne (show 10≠11 by decide)]
 refine⟨below_setCells e2 h.low 0 _,?_,?_,?_,?_,?_,?_,?_,?_,?_,?_,?_,?_,?_,?_,?_,?_,?_,?_,?_,?_⟩
 ·rw [setL_ne (by decide),setL_ne (by decide)];exact h.c4
 ·rw [setL_ne (by decide),setL_ne (by decide)];exact h.c5
 ·rw [setL_ne (by decide),setL_ne (by decide)];exact h.c6
 ·rw [setL_ne (by decide),setL_ne (by decide)];exact h.c7
 ·rw [setL_ne (by decide),setL_ne (by decide)];exact h.c8
 ·intro _;rw [setL_ne (show 6≠11 by decide),setL_ne (show 9≠11 by decide)];exact⟨hs,hb⟩
 ·rw [setL_ne (show 12≠11 by decide),setL_ne (show 7≠11 by decide),setL_ne (show 10≠11 by decide)];exact h.c12
 ·rw [setL_ne (by decide),setL_ne (by decide)];exact h.c13
 ·rw [setL_ne (by decide),updU_ne (by decide)];exact h.v0
 ·rw [setL_ne (by decide),updU_ne (by decide)];exact h.v1
 ·rw [setL_ne (show 4≠11 by decide),t4]
  intro _ e;cases e
 ·rw [setL_ne (by decide),updU_ne (by decide)];exact h.v3
 ·rw [setL_ne (show 4≠11 by decide),updU_ne (show 4≠11 by decide),hsx]
  intro h4
  obtain⟨k1,k2,k3⟩:=h.v4 h4
  exact⟨k1,k2.kept hkp,k3.kept hkp⟩
 ·rw [setL_ne (by decide),updU_ne (by decide)];exact h.v5
 ·rw [setL_ne (by decide),updU_ne (by decide)];exact h.v6
 ·rw [setL_ne (by decide),updU_ne (by decide)];exact h.v7
 ·rw [setL_ne (by decide),updU_ne (by decide)];exact h.v8
 ·rw [updU_ne (show 9≠11 by decide)]
  intro _
  rw [if_pos setL_eq]
  exact⟨q,hq,e2,hk⟩
 ·rw [setL_ne (show 10≠11 by decide),setL_ne (show 12≠11 by decide),updU_ne (show 10≠11 by decide)]
  intro hh
  obtain⟨q1,k1,k2,k3⟩:=h.v10 hh
  exact⟨q1,k1,k2,(save_setCells W q 0 _).blk k3 (k3.ne_ e3 (by decide))⟩
 ·rw [setL_ne (by decide),updU_ne (by decide)];exact h.v13
theorem Z14.put12 (hb:L 10=true) (hs:L 7=true) (hq:U 10=.pointer (some ⟨q,0,none⟩)) (hk:Blk (W.setCells q 0 cc1.toList) q 47 cc1) :
 Z14 w0 g mc rc m p (setL L 12) (updU U 12 undef) (W.setCells q 0 cc1.toList) mc1 cc1:=by
 obtain⟨q',e1,e2,e3⟩:=h.v10 hb
 rw [hq] at e1
 obtain rfl:q=q':=by injection e1 with e1;injection e1 with e1;injection e1
 have t4:=h.c5 (h.c7 hs)
 have hne:¬ Sx w0.heap.size L U q:=fun hx=>hx.2.2 hb hq
 have hkp:Kept (Sx w0.heap.size L U) W (W.setCells q 0 cc1.toList):=(Kept.refl _ _).cells q 0 (.inl hne) _
 have hsx:Sx w0.heap.size (setL L 12) (updU U 12 undef)=Sx w0.heap.size L U:=by
  unfold Sx
  rw [setL_ne (show 9≠12 by decide),setL_ne (show 10≠12 by decide),updU_ne (show 9≠12 by decide),updU_ne (show 10≠12 by decide)]
 refine⟨below_setCells e2 h.low 0 _,?_,?_,?_,?_,?_,?_,?_,?_,?_,?_,?_,?_,?_,?_,?_,?_,?_,?_,?_,?_⟩
 ·rw [setL_ne (by decide),setL_ne (by decide)];exact h.c4
 ·rw [setL_ne (by decide),setL_ne (by decide)];exact h.c5
 ·rw [setL_ne (by decide),setL_ne (by decide)];exact h.c6
 ·rw [setL_ne (by decide),setL_ne (by decide)];exact h.c7
 ·rw [setL_ne (by decide),setL_ne (by decide)];exact h.c8
 ·rw [setL_ne (show 11≠12 by decide),setL_ne (show 6≠12 by decide),setL_ne (show 9≠12 by decide)];exact h.c11
 ·intro _;rw [setL_ne (show 7≠12 by decide),setL_ne (show 10≠12 by decide)];exact⟨hs,hb⟩
 ·rw [setL_ne (by decide),setL_ne (by decide)];exact h.c13
 ·rw [setL_ne (by decide),updU_ne (by decide)];exact h.v0
 ·rw [setL_ne (by decide),updU_ne (by decide)];exact h.v1
 ·rw [setL_ne (show 4≠12 by decide),t4]
  intro _ e;cases e
 ·rw [setL_ne (by decide),updU_ne (by decide)];exact h.v3
 ·rw [setL_ne (show 4≠12 by decide),updU_ne (show 4≠12 by decide),hsx]
  intro h4
  obtain⟨k1,k2,k3⟩:=h.v4 h4
  exact⟨k1,k2.kept hkp,k3.kept hkp⟩
 ·rw [setL_ne (by decide),updU_ne (by decide)];exact h.v5
 ·rw [setL_ne (by decide),updU_ne (by decide)];exact h.v6
 ·rw [setL_ne (by decide),updU_ne (by decide)];exact h.v7
 ·rw [setL_ne (by decide),updU_ne (by decide)];exact h.v8
 ·rw [setL_ne (show 9≠12 by decide),setL_ne (show 11≠12 by decide),updU_ne (show 9≠12 by decide)]
  intro hh
  obtain⟨q1,k1,k2,k3⟩:=h.v9 hh
  exact⟨q1,k1,k2,(save_setCells W q 0 _).blk k3 (k3.ne_ e3 (by decide))⟩
 ·rw [updU_ne (show 10≠12 by decide)]
  intro _
  rw [if_pos setL_eq]
  exact⟨q,hq,e2,hk⟩
 ·rw [setL_ne (by decide),updU_ne (by decide)];exact h.v13
end
end
end
end Go.Proofs.Ytaipgdhdfpemcaa
