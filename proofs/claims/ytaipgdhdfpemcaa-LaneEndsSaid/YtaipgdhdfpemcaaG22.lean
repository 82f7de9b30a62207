/- THE WALKS OF THE LANE, part 22. -/
import Derived.Test.YtaipgdhdfpemcaaG15
namespace Go.Proofs.Ytaipgdhdfpemcaa
set_option linter.all false
open Go.RowKit Go.Proofs.Try
set_option maxRecDepth 100000
set_option maxHeartbeats 4000000
theorem eta249 (t:Array Value) (h:t.size=249):t=#[at_ t 0,at_ t 1,at_ t 2,at_ t 3,at_ t 4,at_ t 5,at_ t 6,at_ t 7,at_ t 8,at_ t 9,at_ t 10,at_ t 11,at_ t 12,at_ t 13,at_ t 14,at_ t 15,at_ t 16,at_ t 17,at_ t 18,at_ t 19,at_ t 20,at_ t 21,at_ t 22,at_ t 23,at_ t 24,at_ t 25,at_ t 26,at_ t 27,at_ t 28,at_ t 29,at_ t 30,at_ t 31,at_ t 32,at_ t 33,at_ t 34,at_ t 35,at_ t 36,at_ t 37,at_ t 38,at_ t 39,at_ t 40,at_ t 41,at_ t 42,at_ t 43,at_ t 44,at_ t 45,at_ t 46,at_ t 47,at_ t 48,at_ t 49,at_ t 50,at_ t 51,at_ t 52,at_ t 53,at_ t 54,at_ t 55,at_ t 56,at_ t 57,at_ t 58,at_ t 59,at_ t 60,at_ t 61,at_ t 62,at_ t 63,at_ t 64,at_ t 65,at_ t 66,at_ t 67,at_ t 68,at_ t 69,at_ t 70,at_ t 71,at_ t 72,at_ t 73,at_ t 74,at_ t 75,at_ t 76,at_ t 77,at_ t 78,at_ t 79,at_ t 80,at_ t 81,at_ t 82,at_ t 83,at_ t 84,at_ t 85,at_ t 86,at_ t 87,at_ t 88,at_ t 89,at_ t 90,at_ t 91,at_ t 92,at_ t 93,at_ t 94,at_ t 95,at_ t 96,at_ t 97,at_ t 98,at_ t 99,at_ t 100,at_ t 101,at_ t 102,at_ t 103,at_ t 104,at_ t 105,at_ t 106,at_ t 107,at_ t 108,at_ t 109,at_ t 110,at_ t 111,at_ t 112,at_ t 113,at_ t 114,at_ t 115,at_ t 116,at_ t 117,at_ t 118,at_ t 119,at_ t 120,at_ t 121,at_ t 122,at_ t 123,at_ t 124,at_ t 125,at_ t 126,at_ t 127,at_ t 128,at_ t 129,at_ t 130,at_ t 131,at_ t 132,at_ t 133,at_ t 134,at_ t 135,at_ t 136,at_ t 137,at_ t 138,at_ t 139,at_ t 140,at_ t 141,at_ t 142,at_ t 143,at_ t 144,at_ t 145,at_ t 146,at_ t 147,at_ t 148,at_ t 149,at_ t 150,at_ t 151,at_ t 152,at_ t 153,at_ t 154,at_ t 155,at_ t 156,at_ t 157,at_ t 158,at_ t 159,at_ t 160,at_ t 161,at_ t 162,at_ t 163,at_ t 164,at_ t 165,at_ t 166,at_ t 167,at_ t 168,at_ t 169,at_ t 170,at_ t 171,at_ t 172,at_ t 173,at_ t 174,at_ t 175,at_ t 176,at_ t 177,at_ t 178,at_ t 179,at_ t 180,at_ t 181,at_ t 182,at_ t 183,at_ t 184,at_ t 185,at_ t 186,at_ t 187,at_ t 188,at_ t 189,at_ t 190,at_ t 191,at_ t 192,at_ t 193,at_ t 194,at_ t 195,at_ t 196,at_ t 197,at_ t 198,at_ t 199,at_ t 200,at_ t 201,at_ t 202,at_ t 203,at_ t 204,at_ t 205,at_ t 206,at_ t 207,at_ t 208,at_ t 209,at_ t 210,at_ t 211,at_ t 212,at_ t 213,at_ t 214,at_ t 215,at_ t 216,at_ t 217,at_ t 218,at_ t 219,at_ t 220,at_ t 221,at_ t 222,at_ t 223,at_ t 224,at_ t 225,at_ t 226,at_ t 227,at_ t 228,at_ t 229,at_ t 230,at_ t 231,at_ t 232,at_ t 233,at_ t 234,at_ t 235,at_ t 236,at_ t 237,at_ t 238,at_ t 239,at_ t 240,at_ t 241,at_ t 242,at_ t 243,at_ t 244,at_ t 245,at_ t 246,at_ t 247,at_ t 248]:=(eta_ t h).trans kr
@[reducible] noncomputable def otherF:Func:=Try.f77
@[reducible] noncomputable def othQ (W:World) (res:Bool):Z:=bodyPost prog otherF fun e w'=>e=.returned (.bool res)/\Below W W w'
def nx (W:World) (res:Bool) (p:List Nat) (b:Nat) (cells:Array Value) (l:List (Nat×Value)):Prop:=
 ∀ (a:Act) (w:World),Fr 249 a l->Blk w b 30 cells->Below W W w->(part p (codeOf otherF)).wp prog (othQ W res) a w
theorem oth_last10 (W w:World) (a:Act) (res:Bool) (b:Nat) {kind term index prev commit:Int} {good:Bool} {eA:O} {en ec:Nat} {data:ByteArray} {hA:O} {hn hc:Nat} {epoch site atN atE whN whE:Int} {oA:O} {on oc:Nat} {pA:O} {pn pc:Nat} (p x7:Bool) (x3 x4:Int) (holes:List Int) {S:Nat->Prop} (hk:kind=10) (hfr:Fr 249 a [(1,b),(3,x3),(4,x4),(6,p),(7,x7)]) (h1:Blk w b 30 (mailC kind term index prev commit good eA en ec data hA hn hc epoch site atN atE whN whE oA on oc pA pn pc)) (hh:IntIs w S oA on oc holes) (hb:Below W W w) (hres:res=(p&&(decide (site=0)&&(decide (0<epoch)&&riseB whN 0 holes)))) :
 (part [1,1,1,1,1,1,1,1] (codeOf otherF)).wp prog (othQ W res) a w:=by
 subst hk
 have c0:=h1.c1 0
 obtain⟨c9,c10⟩:=h1.cs 9 2
 have c13:=h1.c1 13
 have c15:=h1.c1 15
 obtain⟨HR,HB,HS⟩:=J3 hh hb hres
 have hz:on<=maxLen:=Nat.le_trans hh.2.1 hh.2.2
 have HZ:=J hz
 clear h1 hh hb hres hz
 obtain⟨t,df⟩:=a
 obtain⟨hd,hs,h1,h3,h4,h6,h7,-⟩:=hfr
 simp only at hd hs h1 h3 h4 h6 h7
 subst hd
 rw [eta249 t hs,h1,h3,h4,h6,h7]
 clear hs h1 h3 h4 h6 h7
 cases p with
 | false=>
  exact Y42
 | true=>
  by_cases hs:site=0
  ·have ds:(site==0)=true:=by simpa using hs
   have D1:Hid (decide (site=0)=true):=J (decide_eq_true hs)
   clear hs
   by_cases he:0<epoch
   ·have D2:Hid (decide (0<epoch)=true):=J (decide_eq_true he)
    have de:decide (0<epoch)=true:=decide_eq_true he
    clear he
    obtain⟨r,hr⟩:∃ r,r=riseB whN 0 holes:=⟨_,rfl⟩
    have hri:=rise_any whN w.heap.size oA on oc holes w HR.out.1.reads HZ.out
    rw [<-hr] at hri
    have HRI:=J hri
    have hres:=HS.out
    rw [D1.out,D2.out,<-hr] at hres
    have HS2:=J hres
    clear hr hri hres
    conv=>arg 2;whnf
    go_wp2_with fail
    refine HRI.out.mono ?_
    rintro e w2 ⟨rfl,rfl⟩
    go_wp2_with fail
    go_ret
    exact⟨ret_bool' (by rw [HS2.out];simp),HB.out⟩
   ·have D2:Hid (decide (0<epoch)=false):=J (decide_eq_false he)
    have de:decide (0<epoch)=false:=decide_eq_false he
    clear he
    conv=>arg 2;whnf
    go_wp2_with fail
    go_ret
    exact⟨ret_bool' (by rw [HS.out,D2.out];simp),HB.out⟩
  ·have ds:(site==0)=false:=by simpa using hs
   have D1:Hid (decide (site=0)=false):=J (decide_eq_false hs)
   clear hs
   conv=>arg 2;whnf
   go_wp2_with fail
   go_ret
   exact⟨ret_bool' (by rw [HS.out,D1.out];simp),HB.out⟩
def chk8 (kind:Int) (good:Bool) (epoch site atN atE whN whE:Int):Bool:=
 (decide (0<=site)&&decide (site<=1))&&((decide (0<=epoch)&&decide (epoch<=16))&&(placeB atN atE&&(placeB whN whE&&!(good&&kind != 10))))
section
variable {good:Bool} {data:ByteArray} {atE atN commit epoch index kind prev site term whE whN:Int} {ec en hc hn oc on pc pn:Nat} {eA hA oA pA:O}
section
variable (W w:World) (a:Act) (res:Bool) (b:Nat)
include W w a res b
section
variable (p x7:Bool) (x3 x4:Int) (hfr:Fr 249 a [(1,b),(3,x3),(4,x4),(6,p),(7,x7)]) (h1:Blk w b 30 (mailC kind term index prev commit good eA en ec data hA hn hc epoch site atN atE whN whE oA on oc pA pn pc)) (hb:Below W W w)
include p x7 x3 x4 hfr h1 hb
theorem oth8 (hno:chk8 kind good epoch site atN atE whN whE=false->res=false) (hnx:chk8 kind good epoch site atN atE whN whE=true->nx W res [1,1,1,1,1,1,1,1] b (mailC kind term index prev commit good eA en ec data hA hn hc epoch site atN atE whN whE oA on oc pA pn pc) [(1,b),(3,x3),(4,x4),(6,p),(7,x7)]) :
 (part [1,1,1,1,1,1,1] (codeOf otherF)).wp prog (othQ W res) a w:=by
 have c0:=h1.c1 0
 have c5:=h1.c1 5
 obtain⟨c9,c10,c11,c12,c13,c14⟩:=h1.cs 9 6
 have hblt:=h1.lt
 obtain⟨H1,HB,HNO,HNX⟩:=J4 h1 hb hno hnx
 clear h1 hb hno hnx
 obtain⟨b1,h1⟩:∃ b,b=(decide (0<=site)&&decide (site<=1)):=⟨_,rfl⟩
 obtain⟨b2,h2⟩:∃ b,b=(decide (0<=epoch)&&decide (epoch<=16)):=⟨_,rfl⟩
 obtain⟨b3,h3⟩:∃ b,b=placeB atN atE:=⟨_,rfl⟩
 obtain⟨b4,h4⟩:∃ b,b=placeB whN whE:=⟨_,rfl⟩
 have hchk:chk8 kind good epoch site atN atE whN whE=(b1&&(b2&&(b3&&(b4&&!(good&&kind != 10))))):=by rw [h1,h2,h3,h4];rfl
 obtain⟨HC,B1,B2,B3,B4⟩:=J5 hchk h1 h2 h3 h4
 clear h1 h2 h3 h4 hchk
 obtain⟨t,df⟩:=a
 obtain⟨hd,hs,h1,h3,h4,h6,h7,-⟩:=hfr
 simp only at hd hs h1 h3 h4 h6 h7
 subst hd
 rw [eta249 t hs,h1,h3,h4,h6,h7]
 clear hs h1 h3 h4 h6 h7
 refine Wq ?_
 intro K hK
 conv=>arg 2;whnf
 go_wp2_with fail
 refine (within_new 0 1 site _ _ _ (by simp)).mono ?_
 rintro e w1 ⟨rfl,rfl⟩
 rw [<-B1.out]
 have hz1:Below w w (w.alloc (.cells #[site] 3)):=(Below.refl _ _).alloc (Nat.le_refl _) _
 have HZ1:=J hz1
 clear hz1
 cases b1 with
 | false=>
  go_wp2_with fail
  go_ret
  exact⟨ret_bool' (HNO.out (by rw [HC.out];rfl)).symm,HB.out.trans (HZ1.out.mono HB.out.size)⟩
 | true=>
  go_wp2_with fail
  refine (within_new 0 16 epoch _ _ _ (by first|rfl|simp)).mono ?_
  rintro e w2 ⟨rfl,rfl⟩
  rw [<-B2.out]
  have hz2:Below w w ((w.alloc (.cells #[site] 3)).alloc (.cells #[epoch] 3)):=HZ1.out.alloc HZ1.out.size _
  have HZ2:=J hz2
  clear hz2
  cases b2 with
  | false=>
   go_wp2_with fail
   go_ret
   exact⟨ret_bool' (HNO.out (by rw [HC.out];rfl)).symm,HB.out.trans (HZ2.out.mono HB.out.size)⟩
  | true=>
   go_wp2_with fail
   refine (place_any atN atE _).mono ?_
   rintro e w3 ⟨rfl,hb3⟩
   rw [<-B3.out]
   have hz3:=HZ2.out.trans (hb3.mono HZ2.out.size)
   have hk3:=H1.out.below hz3 H1.out.lt
   have c0:=hk3.c1 0
   have c5:=hk3.c1 5
   obtain⟨c13,c14⟩:=hk3.cs 13 2
   have HZ3:=J hz3
   clear hb3 hz3 hk3
   cases b3 with
   | false=>
    go_wp2_with fail
    go_ret
    exact⟨ret_bool' (HNO.out (by rw [HC.out];rfl)).symm,HB.out.trans (HZ3.out.mono HB.out.size)⟩
   | true=>
    go_wp2_with fail
    refine (place_any whN whE _).mono ?_
    rintro e w4 ⟨rfl,hb4⟩
    rw [<-B4.out]
    have hz4:=HZ3.out.trans (hb4.mono HZ3.out.size)
    have hk4:=H1.out.below hz4 H1.out.lt
    have c0:=hk4.c1 0
    have c5:=hk4.c1 5
    obtain⟨HZ4,HK4⟩:=J2 hz4 hk4
    clear hb4 hz4 hk4
    cases b4 with
    | false=>
     go_wp2_with fail
     go_ret
     exact⟨ret_bool' (HNO.out (by rw [HC.out];rfl)).symm,HB.out.trans (HZ4.out.mono HB.out.size)⟩
    | true=>
     cases good with
     | false=>
      exact Y116
     | true=>
      by_cases hk:kind=10
      ·subst hk
       exact Y116
      ·have d:(kind != 10)=true:=by simpa using hk
       clear hk
       go_wp2_with fail
       go_ret
       exact⟨ret_bool' (HNO.out (by rw [HC.out,d];rfl)).symm,HB.out.trans (HZ4.out.mono HB.out.size)⟩
theorem oth7 (hnx:nx W res [1,1,1,1,1,1,1] b (mailC kind term index prev commit good eA en ec data hA hn hc epoch site atN atE whN whE oA on oc pA pn pc) [(1,b),(3,x3),(4,x4),(6,p),(7,x7)]) :
 (part [1,1,1,1,1,1] (codeOf otherF)).wp prog (othQ W res) a w:=by
 obtain⟨c11,c12,c13,c14⟩:=h1.cs 11 4
 obtain⟨H1,HB,HNX⟩:=J3 h1 hb hnx
 clear h1 hb hnx
 obtain⟨y1,hy1⟩:∃ x,(atN==0)=x:=⟨_,rfl⟩
 obtain⟨y2,hy2⟩:∃ x,(atE==0)=x:=⟨_,rfl⟩
 obtain⟨y3,hy3⟩:∃ x,(whN==0)=x:=⟨_,rfl⟩
 obtain⟨y4,hy4⟩:∃ x,(whE==0)=x:=⟨_,rfl⟩
 obtain⟨t,df⟩:=a
 obtain⟨hd,hs,h1,h3,h4,h6,h7,-⟩:=hfr
 simp only at hd hs h1 h3 h4 h6 h7
 subst hd
 rw [eta249 t hs,h1,h3,h4,h6,h7]
 clear hs h1 h3 h4 h6 h7
 refine Wq ?_
 intro K hK
 conv=>arg 2;whnf
 cases y1
 ·clear hy2 hy3 hy4
  go_wp2_with fail
  exact Y90
 ·cases y2
  ·clear hy3 hy4
   go_wp2_with fail
   exact Y90
  ·cases y3
   ·clear hy4
    go_wp2_with fail
    exact Y90
   ·cases y4
    ·go_wp2_with fail
     exact Y90
    ·go_wp2_with fail
     exact Y90
end
theorem oth6 (p:Bool) (x3 x4:Int) (hfr:Fr 249 a [(1,b),(3,x3),(4,x4),(6,p)]) (h1:Blk w b 30 (mailC kind term index prev commit good eA en ec data hA hn hc epoch site atN atE whN whE oA on oc pA pn pc)) (hb:Below W W w) (hnx:nx W res [1,1,1,1,1,1] b (mailC kind term index prev commit good eA en ec data hA hn hc epoch site atN atE whN whE oA on oc pA pn pc) [(1,b),(3,x3),(4,x4),(6,p),(7,(decide (on=0)))]) :
 (part [1,1,1,1,1] (codeOf otherF)).wp prog (othQ W res) a w:=by
 have c15:=h1.c1 15
 obtain⟨H1,HB,HNX⟩:=J3 h1 hb hnx
 clear h1 hb hnx
 obtain⟨t,df⟩:=a
 obtain⟨hd,hs,h1,h3,h4,h6,-⟩:=hfr
 simp only at hd hs h1 h3 h4 h6
 subst hd
 rw [eta249 t hs,h1,h3,h4,h6]
 clear hs h1 h3 h4 h6
 refine Wq ?_
 intro K hK
 conv=>arg 2;whnf
 by_cases ho:on=0
 ·have d:((on:Int)==0)=true:=by simpa using ho
  have HD:Hid (decide (on=0)=true):=J (decide_eq_true ho)
  exact Y41
 ·have d:((on:Int)==0)=false:=by simpa using ho
  have HD:Hid (decide (on=0)=false):=J (decide_eq_false ho)
  exact Y41
theorem oth5 (z1:hn<=140737488351232) (z2:data.size<=140737488351232) (z3:pn<=140737488351232) (hfr:Fr 249 a [(1,b),(3,.int .i64 (hn:Nat)),(4,.int .i64 (data.size:Nat))]) (h1:Blk w b 30 (mailC kind term index prev commit good eA en ec data hA hn hc epoch site atN atE whN whE oA on oc pA pn pc)) (hb:Below W W w) (hnx:nx W res [1,1,1,1,1] b (mailC kind term index prev commit good eA en ec data hA hn hc epoch site atN atE whN whE oA on oc pA pn pc) [(1,b),(3,.int .i64 (hn:Nat)),(4,.int .i64 (data.size:Nat)),(6,(decide (hn+data.size+pn=0)))]) :
 (part [1,1,1,1] (codeOf otherF)).wp prog (othQ W res) a w:=by
 have c16:=h1.c1 16
 obtain⟨H1,HB,HNX⟩:=J3 h1 hb hnx
 clear h1 hb hnx
 obtain⟨t,df⟩:=a
 obtain⟨hd,hs,h1,h3,h4,-⟩:=hfr
 simp only at hd hs h1 h3 h4
 subst hd
 rw [eta249 t hs,h1,h3,h4]
 clear hs h1 h3 h4
 refine Wq ?_
 intro K hK
 conv=>arg 2;whnf
 by_cases ho:hn+data.size+pn=0
 ·have d:((hn:Int)+(data.size:Int)+(pn:Int)==0)=true:=beq_iff_eq.2 (by omega)
  have HD:Hid (decide (hn+data.size+pn=0)=true):=J (decide_eq_true ho)
  exact Y41
 ·have d:((hn:Int)+(data.size:Int)+(pn:Int)==0)=false:=beq_eq_false_iff_ne.2 (by omega)
  have HD:Hid (decide (hn+data.size+pn=0)=false):=J (decide_eq_false ho)
  exact Y41
theorem oth4 (hfr:Fr 249 a [(1,b),(3,.int .i64 (hn:Nat)),(4,.int .i64 (data.size:Nat))]) (h1:Blk w b 30 (mailC kind term index prev commit good eA en ec data hA hn hc epoch site atN atE whN whE oA on oc pA pn pc)) (hb:Below W W w) (hnx:nx W res [1,1,1,1] b (mailC kind term index prev commit good eA en ec data hA hn hc epoch site atN atE whN whE oA on oc pA pn pc) [(1,b),(3,.int .i64 (hn:Nat)),(4,.int .i64 (data.size:Nat))]) :
 (part [1,1,1] (codeOf otherF)).wp prog (othQ W res) a w:=by
 obtain⟨c9,c10⟩:=h1.cs 9 2
 obtain⟨H1,HB,HNX⟩:=J3 h1 hb hnx
 clear h1 hb hnx
 obtain⟨y1,hy1⟩:∃ x,(epoch==0)=x:=⟨_,rfl⟩
 obtain⟨y2,hy2⟩:∃ x,(site==0)=x:=⟨_,rfl⟩
 obtain⟨t,df⟩:=a
 obtain⟨hd,hs,h1,h3,h4,-⟩:=hfr
 simp only at hd hs h1 h3 h4
 subst hd
 rw [eta249 t hs,h1,h3,h4]
 clear hs h1 h3 h4
 refine Wq ?_
 intro K hK
 conv=>arg 2;whnf
 cases y1
 ·clear hy2
  go_wp2_with fail
  exact Y90
 ·cases y2
  ·go_wp2_with fail
   exact Y90
  ·go_wp2_with fail
   exact Y90
theorem oth3 (hfr:Fr 249 a [(1,b)]) (h1:Blk w b 30 (mailC kind term index prev commit good eA en ec data hA hn hc epoch site atN atE whN whE oA on oc pA pn pc)) (hb:Below W W w) (hnx:nx W res [1,1,1] b (mailC kind term index prev commit good eA en ec data hA hn hc epoch site atN atE whN whE oA on oc pA pn pc) [(1,b),(3,.int .i64 (hn:Nat)),(4,.int .i64 (data.size:Nat))]) :
 (part [1,1] (codeOf otherF)).wp prog (othQ W res) a w:=by
 obtain⟨c7,c8⟩:=h1.cs 7 2
 obtain⟨H1,HB,HNX⟩:=J3 h1 hb hnx
 clear h1 hb hnx
 obtain⟨t,df⟩:=a
 obtain⟨hd,hs,h1,-⟩:=hfr
 simp only at hd hs h1
 subst hd
 rw [eta249 t hs,h1]
 clear hs h1
 refine Wq ?_
 intro K hK
 conv=>arg 2;whnf
 go_wp2_with fail
 go_quiet (fail)
 go_wp2_with fail
 exact HNX.out _ _ ff (H1.out.drewN _) (below_drewN HB.out _)
end
end
def pre1 (term index prev commit:Int) (en:Nat):Bool:=decide (term=0)&&(decide (index=0)&&(decide (prev=0)&&(decide (commit=0)&&decide (en=0))))
theorem oth1 (W w:World) (a:Act) (res:Bool) (b:Nat) {kind term index prev commit:Int} {good:Bool} {eA:O} {en ec:Nat} {data:ByteArray} {hA:O} {hn hc:Nat} {epoch site atN atE whN whE:Int} {oA:O} {on oc:Nat} {pA:O} {pn pc:Nat} (hfr:Fr 249 a [(1,b)]) (h1:Blk w b 30 (mailC kind term index prev commit good eA en ec data hA hn hc epoch site atN atE whN whE oA on oc pA pn pc)) (hb:Below W W w) (hno:pre1 term index prev commit en=false->res=false) (hnx:pre1 term index prev commit en=true->nx W res [1,1] b (mailC kind term index prev commit good eA en ec data hA hn hc epoch site atN atE whN whE oA on oc pA pn pc) [(1,b)]) :
 (part [1] (codeOf otherF)).wp prog (othQ W res) a w:=by
 obtain⟨c1,c2,c3,c4⟩:=h1.cs 1 4
 have c6:=h1.c1 6
 obtain⟨H1,HB,HNX,HNO⟩:=J4 h1 hb hnx hno
 clear h1 hb hnx hno
 obtain⟨t,df⟩:=a
 obtain⟨hd,hs,h1,-⟩:=hfr
 simp only at hd hs h1
 subst hd
 rw [eta249 t hs,h1]
 clear hs h1
 refine Wq ?_
 intro K hK
 conv=>arg 2;whnf
 by_cases h0:term=0
 ·have t0:(term != 0)=false:=by simp [h0]
  have H0:=J h0
  clear h0
  by_cases h1:index=0
  ·have t1:(index != 0)=false:=by simp [h1]
   have G1:=J h1
   clear h1
   by_cases h2:prev=0
   ·have t2:(prev != 0)=false:=by simp [h2]
    have H2:=J h2
    clear h2
    by_cases h3:commit=0
    ·have t3:(commit != 0)=false:=by simp [h3]
     have H3:=J h3
     clear h3
     by_cases h4:en=0
     ·subst h4
      go_wp2_with fail
      exact HNX.out (by simp [pre1,H0.out,G1.out,H2.out,H3.out]) _ _ ff H1.out HB.out
     ·have h5:0<en:=by omega
      have H4:=J h4
      clear h4
      go_wp2_with fail
      go_ret
      exact⟨ret_bool' (HNO.out (by have:=H4.out;simp [pre1,this])).symm,HB.out⟩
    ·have t3:(commit != 0)=true:=by simp [h3]
     have H3:=J h3
     clear h3
     go_wp2_with fail
     go_ret
     exact⟨ret_bool' (HNO.out (by simp [pre1,H3.out])).symm,HB.out⟩
   ·have t2:(prev != 0)=true:=by simp [h2]
    have H2:=J h2
    clear h2
    go_wp2_with fail
    go_ret
    exact⟨ret_bool' (HNO.out (by simp [pre1,H2.out])).symm,HB.out⟩
  ·have t1:(index != 0)=true:=by simp [h1]
   have G1:=J h1
   clear h1
   go_wp2_with fail
   go_ret
   exact⟨ret_bool' (HNO.out (by simp [pre1,G1.out])).symm,HB.out⟩
 ·have t0:(term != 0)=true:=by simp [h0]
  have H0:=J h0
  clear h0
  go_wp2_with fail
  go_ret
  exact⟨ret_bool' (HNO.out (by simp [pre1,H0.out])).symm,HB.out⟩
def MailC.right10 (m:MailC):Bool:=
 pre1 m.term m.index m.prev m.commit m.ents.length&&(chk8 10 m.good m.epoch m.site m.atN m.atE m.whN m.whE&&(decide (m.hs.length+m.data.size+m.ops.length=0)&&(decide (m.site=0)&&(decide (0<m.epoch)&&riseB m.whN 0 m.holes))))
section
variable {S:Nat->Prop}
section
variable (cells:Array Value) (m:MailC) (w:World) (hk:m.kind=10) (hm:MailIs w S cells m) (hok:m.Ok)
include cells m w hk hm hok
theorem other10_any :
 Calls prog 77 #[.agg cells] w fun e w'=>e=.returned (.bool m.right10)/\Below w w w':=by
 obtain⟨eA,en,ec,hA,hn,hc,oA,on,oc,pA,pn,pc,rfl,h1,h2,h3,h4⟩:=hm
 have l1:=h1.len
 have l2:=h2.len
 have l4:=h4.len
 have z1:hn<=140737488351232:=by have:=hok.hs;omega
 have z2:=hok.data
 have z3:pn<=140737488351232:=by have:=hok.ops;omega
 have hres:m.right10=(pre1 m.term m.index m.prev m.commit en&&(chk8 10 m.good m.epoch m.site m.atN m.atE m.whN m.whE&&(decide (hn+m.data.size+pn=0)&&(decide (m.site=0)&&(decide (0<m.epoch)&&riseB m.whN 0 m.holes))))):=by unfold MailC.right10;rw [l1,l2,l4]
 have hbk:=Blk.new w 30 (mailC m.kind m.term m.index m.prev m.commit m.good eA en ec m.data hA hn hc m.epoch m.site m.atN m.atE m.whN m.whE oA on oc pA pn pc)
 have hb0:Below w w (w.alloc (.cells (mailC m.kind m.term m.index m.prev m.commit m.good eA en ec m.data hA hn hc m.epoch m.site m.atN m.atE m.whN m.whE oA on oc pA pn pc) 30)):=(Below.refl _ _).alloc (Nat.le_refl _) _
 obtain⟨HBK,HB0,HR,HO,HK⟩:=J5 hbk hb0 hres h3 hk
 clear h1 h2 h3 h4 l1 l2 l4 hok hbk hb0 hres hk
 go_enter func77,ntmps77
 conv=>arg 2;arg 2;change part [1] (codeOf otherF)
 go_wp2_with fail
 refine oth1 w _ _ m.right10 w.heap.size ff HBK.out HB0.out (fun hp=>by rw [HR.out,hp];rfl) fun hp a w1 f1 k1 b1=>?_
 refine oth3 w w1 a m.right10 w.heap.size f1 k1 b1 fun a w1 f1 k1 b1=>?_
 refine oth4 w w1 a m.right10 w.heap.size f1 k1 b1 fun a w1 f1 k1 b1=>?_
 refine oth5 w w1 a m.right10 w.heap.size z1 z2 z3 f1 k1 b1 fun a w1 f1 k1 b1=>?_
 refine oth6 w w1 a m.right10 w.heap.size _ _ _ f1 k1 b1 fun a w1 f1 k1 b1=>?_
 refine oth7 w w1 a m.right10 w.heap.size _ _ _ _ f1 k1 b1 fun a w1 f1 k1 b1=>?_
 refine oth8 w w1 a m.right10 w.heap.size _ _ _ _ f1 k1 b1 (fun hc=>by rw [HK.out] at hc;rw [HR.out,hc,hp];rfl) fun hc a w1 f1 k1 b1=>?_
 have ho:IntIs w1 S oA on oc m.holes:=HO.out.below b1
 refine oth_last10 w w1 a m.right10 w.heap.size _ _ _ _ m.holes HK.out f1 k1 ho b1 ?_
 rw [HK.out] at hc
 rw [HR.out,hp,hc]
 rfl
theorem check10_any :
 Calls prog 27 #[.agg cells] w fun e w'=>e=.returned (.int .i64 (if m.right10 then 0 else 3))/\Below w w w':=by
 have hm0:=hm
 obtain⟨eA,en,ec,hA,hn,hc,oA,on,oc,pA,pn,pc,rfl,_⟩:=hm0
 have hbl:∀ o1,Below w w ((w.alloc (.cells (mailC m.kind m.term m.index m.prev m.commit m.good eA en ec m.data hA hn hc m.epoch m.site m.atN m.atE m.whN m.whE oA on oc pA pn pc) 30)).alloc o1):=fun o1=>((Below.refl _ _).alloc (Nat.le_refl _) _).alloc (by simp) _
 have hot:=fun o1=>other10_any _ m _ hk (hm.below (hbl o1)) hok
 obtain⟨r,hr⟩:∃ r,r=m.right10:=⟨_,rfl⟩
 rw [<-hr] at hot ⊢
 clear hr
 obtain⟨HBL,HOT,HK⟩:=J3 hbl hot hk
 clear hm hok hbl hot hk
 have hwi:∀ (g:Nat) (t:TypeId) (W:World),g=W.heap.size->Calls prog 75 #[.int .i64 1,.int .i64 5,.slice (some ⟨g,0,none⟩) 1 1] (W.alloc (.cells #[m.kind] t)) fun e w'=>e=.returned (.bool false)/\W.alloc (.cells #[m.kind] t)=w':=fun g t W hg=>by
  exact Y100
 have HWI:=J hwi
 clear hwi
 go_enter func27,ntmps27
 go_wp2_with fail
 refine (HWI.out _ _ _ (by simp)).mono ?_
 rintro e w1 ⟨rfl,rfl⟩
 go_wp2_with fail
 refine (HOT.out _).mono ?_
 rintro e w2 ⟨rfl,hb2⟩
 have HB2:=J ((HBL.out _).trans (hb2.mono (HBL.out _).size))
 clear hb2
 cases r with
 | true=>
  exact Y111
 | false=>
  exact Y111
end
end
def MailC.right9 (m:MailC):Bool:=
 pre1 m.term m.index m.prev m.commit m.ents.length&&(chk8 9 m.good m.epoch m.site m.atN m.atE m.whN m.whE&&(decide (m.holes.length=0)&&(decide (m.hs.length+m.data.size=0)&&((decide (m.whN=0)&&decide (m.whE=0))&&shipB m.epoch m.atN m.atE m.ops))))
section
variable {good:Bool} {data:ByteArray} {atE atN commit epoch index prev site term whE whN:Int} {ec en hc hn oc on pc pn:Nat} {S:Nat->Prop} {eA hA oA pA:O}
theorem oth_last9 (W w:World) (a:Act) (res:Bool) (b:Nat) (p:Bool) (ops:List OpC) (z1:hn<=140737488351232) (z2:data.size<=140737488351232) (z3:pn<=4294967296) (hok:∀ o∈ops,o.Ok) (hfr:Fr 249 a [(1,b),(3,.int .i64 (hn:Nat)),(4,.int .i64 (data.size:Nat)),(6,p),(7,(decide (on=0)))]) (h1:Blk w b 30 (mailC 9 term index prev commit good eA en ec data hA hn hc epoch site atN atE whN whE oA on oc pA pn pc)) (hh:OpsIs w S pA pn pc ops) (hb:Below W W w) (hres:res=(decide (on=0)&&(decide (hn+data.size=0)&&((decide (whN=0)&&decide (whE=0))&&shipB epoch atN atE ops)))) :
 (part [1,1,1,1,1,1,1,1] (codeOf otherF)).wp prog (othQ W res) a w:=by
 have c0:=h1.c1 0
 obtain⟨c13,c14⟩:=h1.cs 13 2
 obtain⟨H1,HB⟩:=J2 h1 hb
 have hsh:=shipped_any (kind:=9) (term:=term) (index:=index) (prev:=prev) (commit:=commit) (good:=good) (eA:=eA) (en:=en) (ec:=ec) (data:=data) (hA:=hA) (hn:=hn) (hc:=hc) (epoch:=epoch) (site:=site) (atN:=atN) (atE:=atE) (whN:=whN) (whE:=whE) (oA:=oA) (on:=on) (oc:=oc) w hh z3 hok
 obtain⟨r,hr⟩:∃ r,r=shipB epoch atN atE ops:=⟨_,rfl⟩
 rw [<-hr] at hsh hres
 obtain⟨f,hf⟩:∃ f,f=decide (on=0):=⟨_,rfl⟩
 rw [<-hf] at hfr hres
 obtain⟨q1,hq1⟩:∃ f,f=decide (whN=0):=⟨_,rfl⟩
 obtain⟨q2,hq2⟩:∃ f,f=decide (whE=0):=⟨_,rfl⟩
 obtain⟨q3,hq3⟩:∃ f,f=decide (hn+data.size=0):=⟨_,rfl⟩
 rw [<-hq1,<-hq2,<-hq3] at hres
 have e1:(whN==0)=q1:=by rw [hq1];rfl
 have e2:(whE==0)=q2:=by rw [hq2];rfl
 have z5:((hn:Nat):Int)+((data.size:Nat):Int)=((hn+data.size:Nat):Int):=by omega
 have hi:I64 ((hn:Int)+(data.size:Int)):=by constructor<;>omega
 have e4:(((hn:Nat):Int)+((data.size:Nat):Int)==0)=q3:=by
  rw [hq3,z5,Bool.eq_iff_iff,beq_iff_eq,decide_eq_true_eq]
  omega
 obtain⟨HSH,HS⟩:=J2 hsh hres
 clear h1 hh hb hres hsh hok hr hf hq1 hq2 hq3 z5
 obtain⟨t,df⟩:=a
 obtain⟨hd,hs,h1,h3,h4,h6,h7,-⟩:=hfr
 simp only at hd hs h1 h3 h4 h6 h7
 subst hd
 rw [eta249 t hs,h1,h3,h4,h6,h7]
 clear hs h1 h3 h4 h6 h7
 have hmod:(((hn:Nat):Int)+((data.size:Nat):Int))=((hn:Nat):Int)+((data.size:Nat):Int):=rfl
 cases f with
 | false=>
  exact Y42
 | true=>
  cases q3 with
  | false=>
   exact Y42
  | true=>
   cases q1 with
   | false=>
    exact Y42
   | true=>
    cases q2 with
    | false=>
     exact Y42
    | true=>
     obtain⟨d0,d1,d2,d3,d4,d5,d6,d7,d8,d9,d10,d11,d12,d13,d14,d15,d16⟩:=H1.out.cs 0 17
     clear c0 c13 c14
     conv=>arg 2;whnf
     go_wp2_with fail
     refine HSH.out.mono ?_
     rintro e w2 ⟨rfl,hb2⟩
     have HB2:=J (HB.out.trans (hb2.mono HB.out.size))
     clear hb2
     go_wp2_with fail
     go_ret
     exact⟨ret_bool' (by rw [HS.out];rfl),HB2.out⟩
section
variable (cells:Array Value) (m:MailC) (w:World) (hk:m.kind=9) (hm:MailIs w S cells m) (hok:m.Ok) (hz:m.ops.length<=4294967296)
include cells m w hk hm hok hz
theorem other9_any :
 Calls prog 77 #[.agg cells] w fun e w'=>e=.returned (.bool m.right9)/\Below w w w':=by
 obtain⟨eA,en,ec,hA,hn,hc,oA,on,oc,pA,pn,pc,rfl,h1,h2,h3,h4⟩:=hm
 have l1:=h1.len
 have l2:=h2.len
 have l4:=h4.len
 have z1:hn<=140737488351232:=by have:=hok.hs;omega
 have z2:=hok.data
 have z3:pn<=140737488351232:=by have:=hok.ops;omega
 have l3:=h3.len
 have hres:m.right9=(pre1 m.term m.index m.prev m.commit en&&(chk8 9 m.good m.epoch m.site m.atN m.atE m.whN m.whE&&(decide (on=0)&&(decide (hn+m.data.size=0)&&((decide (m.whN=0)&&decide (m.whE=0))&&shipB m.epoch m.atN m.atE m.ops))))):=by unfold MailC.right9;rw [l1,l2,l3]
 have hbk:=Blk.new w 30 (mailC m.kind m.term m.index m.prev m.commit m.good eA en ec m.data hA hn hc m.epoch m.site m.atN m.atE m.whN m.whE oA on oc pA pn pc)
 have hb0:Below w w (w.alloc (.cells (mailC m.kind m.term m.index m.prev m.commit m.good eA en ec m.data hA hn hc m.epoch m.site m.atN m.atE m.whN m.whE oA on oc pA pn pc) 30)):=(Below.refl _ _).alloc (Nat.le_refl _) _
 obtain⟨HBK,HB0,HR,HO,HOK⟩:=J5 hbk hb0 hres h4 hok.op
 have HPN:=J (show pn<=4294967296 by omega)
 have HK:=J hk
 clear h1 h2 h3 h4 l1 l2 l4 hok hbk hb0 hres hk
 go_enter func77,ntmps77
 conv=>arg 2;arg 2;change part [1] (codeOf otherF)
 go_wp2_with fail
 refine oth1 w _ _ m.right9 w.heap.size ff HBK.out HB0.out (fun hp=>by rw [HR.out,hp];rfl) fun hp a w1 f1 k1 b1=>?_
 refine oth3 w w1 a m.right9 w.heap.size f1 k1 b1 fun a w1 f1 k1 b1=>?_
 refine oth4 w w1 a m.right9 w.heap.size f1 k1 b1 fun a w1 f1 k1 b1=>?_
 refine oth5 w w1 a m.right9 w.heap.size z1 z2 z3 f1 k1 b1 fun a w1 f1 k1 b1=>?_
 refine oth6 w w1 a m.right9 w.heap.size _ _ _ f1 k1 b1 fun a w1 f1 k1 b1=>?_
 refine oth7 w w1 a m.right9 w.heap.size _ _ _ _ f1 k1 b1 fun a w1 f1 k1 b1=>?_
 refine oth8 w w1 a m.right9 w.heap.size _ _ _ _ f1 k1 b1 (fun hc=>by rw [HK.out] at hc;rw [HR.out,hc,hp];rfl) fun hc a w1 f1 k1 b1=>?_
 have ho:OpsIs w1 S pA pn pc m.ops:=HO.out.below b1
 refine oth_last9 w w1 a m.right9 w.heap.size _ m.ops z1 z2 (by have:=HPN.out;omega) HOK.out f1 (HK.out▸k1) ho b1 ?_
 rw [HK.out] at hc
 rw [HR.out,hp,hc]
 rfl
theorem check9_any :
 Calls prog 27 #[.agg cells] w fun e w'=>e=.returned (.int .i64 (if m.right9 then 0 else 3))/\Below w w w':=by
 have hm0:=hm
 obtain⟨eA,en,ec,hA,hn,hc,oA,on,oc,pA,pn,pc,rfl,_⟩:=hm0
 have hbl:∀ o1,Below w w ((w.alloc (.cells (mailC m.kind m.term m.index m.prev m.commit m.good eA en ec m.data hA hn hc m.epoch m.site m.atN m.atE m.whN m.whE oA on oc pA pn pc) 30)).alloc o1):=fun o1=>((Below.refl _ _).alloc (Nat.le_refl _) _).alloc (by simp) _
 have hot:=fun o1=>other9_any _ m _ hk (hm.below (hbl o1)) hok hz
 obtain⟨r,hr⟩:∃ r,r=m.right9:=⟨_,rfl⟩
 rw [<-hr] at hot ⊢
 clear hr
 obtain⟨HBL,HOT,HK⟩:=J3 hbl hot hk
 clear hm hok hz hbl hot hk
 have hwi:∀ (g:Nat) (t:TypeId) (W:World),g=W.heap.size->Calls prog 75 #[.int .i64 1,.int .i64 5,.slice (some ⟨g,0,none⟩) 1 1] (W.alloc (.cells #[m.kind] t)) fun e w'=>e=.returned (.bool false)/\W.alloc (.cells #[m.kind] t)=w':=fun g t W hg=>by
  exact Y100
 have HWI:=J hwi
 clear hwi
 go_enter func27,ntmps27
 go_wp2_with fail
 refine (HWI.out _ _ _ (by simp)).mono ?_
 rintro e w1 ⟨rfl,rfl⟩
 go_wp2_with fail
 refine (HOT.out _).mono ?_
 rintro e w2 ⟨rfl,hb2⟩
 have HB2:=J ((HBL.out _).trans (hb2.mono (HBL.out _).size))
 clear hb2
 cases r with
 | true=>
  exact Y111
 | false=>
  exact Y111
end
end
end Go.Proofs.Ytaipgdhdfpemcaa
