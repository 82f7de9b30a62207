/- THE WALKS OF THE LANE, part 43. -/
import Derived.Test.YtaipgdhdfpemcaaG27
import Derived.Test.YtaipgdhdfpemcaaG42
namespace Go.Proofs.Ytaipgdhdfpemcaa
set_option linter.all false
open Go.RowKit Go.Proofs.Try
set_option maxRecDepth 100000
set_option maxHeartbeats 4000000
theorem eta107 (t:Array Value) (h:t.size=107):t=#[at_ t 0,at_ t 1,at_ t 2,at_ t 3,at_ t 4,at_ t 5,at_ t 6,at_ t 7,at_ t 8,at_ t 9,at_ t 10,at_ t 11,at_ t 12,at_ t 13,at_ t 14,at_ t 15,at_ t 16,at_ t 17,at_ t 18,at_ t 19,at_ t 20,at_ t 21,at_ t 22,at_ t 23,at_ t 24,at_ t 25,at_ t 26,at_ t 27,at_ t 28,at_ t 29,at_ t 30,at_ t 31,at_ t 32,at_ t 33,at_ t 34,at_ t 35,at_ t 36,at_ t 37,at_ t 38,at_ t 39,at_ t 40,at_ t 41,at_ t 42,at_ t 43,at_ t 44,at_ t 45,at_ t 46,at_ t 47,at_ t 48,at_ t 49,at_ t 50,at_ t 51,at_ t 52,at_ t 53,at_ t 54,at_ t 55,at_ t 56,at_ t 57,at_ t 58,at_ t 59,at_ t 60,at_ t 61,at_ t 62,at_ t 63,at_ t 64,at_ t 65,at_ t 66,at_ t 67,at_ t 68,at_ t 69,at_ t 70,at_ t 71,at_ t 72,at_ t 73,at_ t 74,at_ t 75,at_ t 76,at_ t 77,at_ t 78,at_ t 79,at_ t 80,at_ t 81,at_ t 82,at_ t 83,at_ t 84,at_ t 85,at_ t 86,at_ t 87,at_ t 88,at_ t 89,at_ t 90,at_ t 91,at_ t 92,at_ t 93,at_ t 94,at_ t 95,at_ t 96,at_ t 97,at_ t 98,at_ t 99,at_ t 100,at_ t 101,at_ t 102,at_ t 103,at_ t 104,at_ t 105,at_ t 106]:=(eta_ t h).trans kr
structure Aw (W w:World) (lb g p:Nat) (nx fence:Int):Prop where
 bel:Below W W w
 lane:Blk w lb 127 (laneC 0 0 0 0 none 0 0 1 0 nx)
 led:LedAt w g fence
 ops:Blk w p 45 (opsV awOps).toArray
 lg:lb<g
 gp:g<p
 low:W.heap.size<=lb
theorem Aw.below {W w w':World} {lb g p:Nat} {nx fence:Int} (h:Aw W w lb g p nx fence) (hb:Below w w w'):Aw W w' lb g p nx fence:=
 ⟨h.bel.trans (hb.mono h.bel.size),h.lane.below hb h.lane.lt,h.led.below hb h.led.lt,h.ops.below hb h.ops.lt,h.lg,h.gp,h.low⟩
@[reducible] noncomputable def awF:Func:=Try.f10
@[reducible] noncomputable def awQ (W:World):Z:=bodyPost prog awF fun e w'=>e=.returned (.bool true)/\Below W W w'
section
variable (W w:World) (a:Act) (lb g p:Nat)
include W w a lb g p
theorem aw11 (m d b g' c':Nat) (hfr:Fr 107 a [(1,lb),(5,.slice (some ⟨p,0,none⟩) 2 2),(6,m),(9,.int .i64 2),(10,d),(11,b),(13,.int .i64 1),(14,.int .i64 1)]) (hw:Aw W w lb g p 0 1) (hm:Blk w m 30 (awShip ⟨g',0,none⟩ c')) (hd:Blk w d 50 #[.int .i64 121,.int .i64 0,.int .i64 0]) (hb:Blk w b 30 awAnswer) :
 (part [1,1,1,1,1,1,1,1,1,1] (codeOf awF)).wp prog (awQ W) a w:=by
 obtain⟨m11,m12⟩:=hm.cs 11 2
 have m16:=hm.c1 16
 have d0:=hd.c1 0
 have a5:=hb.c1 5
 have HW:=J hw
 clear hw hm hd hb
 refine gg hfr fun t=>?_
 go_wp2_with fail
 refine (next_aw lb w HW.out.lane).mono ?_
 rintro e w10 ⟨rfl,rfl⟩
 go_wp2_with fail
 refine (offer0 lb p 0 0 0 0 none 0 0 _ HW.out.lane HW.out.ops).mono ?_
 rintro e w11 ⟨⟨g3,c3,rfl⟩,hb11⟩
 have HW11:=J (HW.out.below hb11)
 clear hb11
 have hf:=field_ops 9 0 0 0 0 false none 0 0 ⟨#[]⟩ none 0 0 1 0 0 0 0 0 none 0 0 (some ⟨g3,0,none⟩) 2 c3 w11
 go_wp2
 go_ret
 exact⟨rfl,HW11.out.bel⟩
theorem aw10 (m d b g' c':Nat) (hfr:Fr 107 a [(1,lb),(3,g),(5,.slice (some ⟨p,0,none⟩) 2 2),(6,m),(9,.int .i64 2),(10,d),(11,b),(13,.int .i64 1)]) (hw:Aw W w lb g p 2 1) (hm:Blk w m 30 (awShip ⟨g',0,none⟩ c')) (hd:Blk w d 50 #[.int .i64 121,.int .i64 0,.int .i64 0]) (hb:Blk w b 30 awAnswer) (hlm:lb≠m) (hld:lb≠d) (hlb:lb≠b) :
 (part [1,1,1,1,1,1,1,1,1] (codeOf awF)).wp prog (awQ W) a w:=by
 have hta:=take_aw lb p w hw.lane hw.ops (by have:=hw.lg;have:=hw.gp;omega) W.heap.size hw.low
 have HTA:=J hta
 have cells:=fun i=>hb.cell i
 have c0:=cells 0
 have c1:=cells 1
 have c2:=cells 2
 have c3:=cells 3
 have c4:=cells 4
 have c5:=cells 5
 have c6:=cells 6
 have c7:=cells 7
 have c8:=cells 8
 have c9:=cells 9
 have c10:=cells 10
 have c11:=cells 11
 have c12:=cells 12
 have c13:=cells 13
 have c14:=cells 14
 have c15:=cells 15
 have c16:=cells 16
 simp at c0 c1 c2 c3 c4 c5 c6 c7 c8 c9 c10 c11 c12 c13 c14 c15 c16
 obtain⟨HW,HM,HD,HB⟩:=J4 hw hm hd hb
 clear hw hm hd hb hta cells
 obtain⟨t,df⟩:=a
 obtain⟨hd,hs,h1,h3,h5,h6,h9,h10,h11,h13,-⟩:=hfr
 simp only at hd hs h1 h3 h5 h6 h9 h10 h11 h13
 subst hd
 rw [eta107 t hs,h1,h3,h5,h6,h9,h10,h11,h13]
 clear hs h1 h3 h5 h6 h9 h10 h11 h13
 refine Wq ?_
 intro K hK
 conv=>arg 2;whnf
 go_wp2_with fail
 refine HTA.out.mono ?_
 rintro e w9 ⟨rfl,hl9,hs9,hz9,hb9⟩
 have hw9:Aw W w9 lb g p 0 1:=⟨HW.out.bel.trans hb9,hl9,by obtain⟨m1,m2,h⟩:=HW.out.led;exact⟨m1,m2,hs9.blk h (by have:=HW.out.lg;omega)⟩,hs9.blk HW.out.ops (by have:=HW.out.lg;have:=HW.out.gp;omega),HW.out.lg,HW.out.gp,HW.out.low⟩
 have HW9:=J hw9
 have HM9:=J (hs9.blk HM.out (Ne.symm hlm))
 have HD9:=J (hs9.blk HD.out (Ne.symm hld))
 have HB9:=J (hs9.blk HB.out (Ne.symm hlb))
 clear hw9 hl9 hs9 hz9 hb9
 go_wp2_with fail
 exact aw11 W _ _ lb g p m d b g' c' ff HW9.out HM9.out HD9.out HB9.out
theorem aw9 (m d g' c':Nat) (hfr:Fr 107 a [(1,lb),(3,g),(5,.slice (some ⟨p,0,none⟩) 2 2),(6,m),(9,.int .i64 2),(10,d)]) (hw:Aw W w lb g p 2 1) (hm:Blk w m 30 (awShip ⟨g',0,none⟩ c')) (hd:Blk w d 50 #[.int .i64 121,.int .i64 0,.int .i64 0]) (hlm:lb≠m) (hld:lb≠d) :
 (part [1,1,1,1,1,1,1,1] (codeOf awF)).wp prog (awQ W) a w:=by
 have hta:=meet2 g g' c' w hw.led
 have HTA:=J hta
 have cells:=fun i=>hm.cell i
 have c0:=cells 0
 have c1:=cells 1
 have c2:=cells 2
 have c3:=cells 3
 have c4:=cells 4
 have c5:=cells 5
 have c6:=cells 6
 have c7:=cells 7
 have c8:=cells 8
 have c9:=cells 9
 have c10:=cells 10
 have c11:=cells 11
 have c12:=cells 12
 have c13:=cells 13
 have c14:=cells 14
 have c15:=cells 15
 have c16:=cells 16
 simp at c0 c1 c2 c3 c4 c5 c6 c7 c8 c9 c10 c11 c12 c13 c14 c15 c16
 obtain⟨HW,HM,HD⟩:=J3 hw hm hd
 clear hw hm hd hta cells
 obtain⟨t,df⟩:=a
 obtain⟨hd,hs,h1,h3,h5,h6,h9,h10,-⟩:=hfr
 simp only at hd hs h1 h3 h5 h6 h9 h10
 subst hd
 rw [eta107 t hs,h1,h3,h5,h6,h9,h10]
 clear hs h1 h3 h5 h6 h9 h10
 refine Wq ?_
 intro K hK
 conv=>arg 2;whnf
 go_wp2_with fail
 refine HTA.out.mono ?_
 rintro e w7 ⟨rfl,hb7⟩
 clear c0 c1 c2 c3 c4 c5 c6 c7 c8 c9 c10 c11 c12 c13 c14 c15 c16
 have hba:Below w7 w7 ((w7.alloc (.cells awAnswer 30)).alloc (.cells noCmd 47)):=((Below.refl _ _).alloc (Nat.le_refl _) _).alloc (by simp) _
 have hw8:=(HW.out.below hb7).below hba
 have hl7:=hw8.lane
 have hm7:=HM.out.below hb7 HM.out.lt
 have hd7:=HD.out.below hb7 HD.out.lt
 have hl8:=HW.out.lane.below hb7 HW.out.lane.lt
 obtain⟨HLA,HW8⟩:=J2 hl8.lt hw8
 have HM8:=J (hm7.below hba hm7.lt)
 have HD8:=J (hd7.below hba hd7.lt)
 have HB8:=J ((Blk.new w7 30 awAnswer).alloc (.cells noCmd 47))
 clear hba hw8 hl7 hm7 hd7 hl8 hb7
 go_wp2_with fail
 exact aw10 W _ _ lb g p m d w7.heap.size g' c' ff HW8.out HM8.out HD8.out HB8.out hlm hld (by have:=HLA.out;omega)
theorem aw8 (m cb g' g2 c' c2:Nat) (hfr:Fr 107 a [(1,lb),(3,g),(5,.slice (some ⟨p,0,none⟩) 2 2),(6,m),(8,cb),(9,.int .i64 2)]) (hw:Aw W w lb g p 2 0) (hm:Blk w m 30 (awShip ⟨g',0,none⟩ c')) (hc:Blk w cb 47 (awCmd ⟨g2,0,none⟩ c2)) (hlm:lb≠m) (hgm:g≠m) :
 (part [1,1,1,1,1,1,1] (codeOf awF)).wp prog (awQ W) a w:=by
 have hta:=apply_aw g ⟨g2,0,none⟩ c2 W.heap.size w hw.led (by have:=hw.low;have:=hw.lg;omega)
 have HTA:=J hta
 have cells:=fun i=>hc.cell i
 have c0:=cells 0
 have c1:=cells 1
 have e2:=cells 2
 have c3:=cells 3
 have c4:=cells 4
 have c5:=cells 5
 have c6:=cells 6
 have c7:=cells 7
 have c8:=cells 8
 have c9:=cells 9
 have c10:=cells 10
 have c11:=cells 11
 have c12:=cells 12
 have c13:=cells 13
 have c14:=cells 14
 have c15:=cells 15
 simp at c0 c1 e2 c3 c4 c5 c6 c7 c8 c9 c10 c11 c12 c13 c14 c15
 obtain⟨HW,HM⟩:=J2 hw hm
 clear hw hm hc hta cells
 obtain⟨t,df⟩:=a
 obtain⟨hd,hs,h1,h3,h5,h6,h8,h9,-⟩:=hfr
 simp only at hd hs h1 h3 h5 h6 h8 h9
 subst hd
 rw [eta107 t hs,h1,h3,h5,h6,h8,h9]
 clear hs h1 h3 h5 h6 h8 h9
 refine Wq ?_
 intro K hK
 conv=>arg 2;whnf
 go_wp2_with fail
 refine HTA.out.mono ?_
 rintro e w6 ⟨rfl,hg6,hb6,hs6⟩
 clear c0 c1 e2 c3 c4 c5 c6 c7 c8 c9 c10 c11 c12 c13 c14 c15
 have hw6:Aw W w6 lb g p 2 1:=⟨HW.out.bel.trans hb6,hs6.blk HW.out.lane (by have:=HW.out.lg;omega),hg6,hs6.blk HW.out.ops (by have:=HW.out.gp;omega),HW.out.lg,HW.out.gp,HW.out.low⟩
 have hm6:=hs6.blk HM.out (Ne.symm hgm)
 have hba:Below w6 w6 (w6.alloc (.cells #[.int .i64 121,.int .i64 0,.int .i64 0] 50)):=(Below.refl _ _).alloc (Nat.le_refl _) _
 have HLD:=J hw6.lane.lt
 have HW6:=J (hw6.below hba)
 have HM6:=J (hm6.below hba hm6.lt)
 have HD6:=J (Blk.new w6 50 #[.int .i64 121,.int .i64 0,.int .i64 0])
 clear hw6 hm6 hba hg6 hb6 hs6
 go_wp2_with fail
 exact aw9 W _ _ lb g p m w6.heap.size g' c' ff HW6.out HM6.out HD6.out hlm (by have:=HLD.out;omega)
theorem aw7 (m g' c':Nat) (hfr:Fr 107 a [(1,lb),(3,g),(5,.slice (some ⟨p,0,none⟩) 2 2),(6,m)]) (hw:Aw W w lb g p 2 0) (hm:Blk w m 30 (awShip ⟨g',0,none⟩ c')) (hlm:lb≠m) (hgm:g≠m) :
 (part [1,1,1,1,1,1] (codeOf awF)).wp prog (awQ W) a w:=by
 have hta:=meet1 g g' c' w hw.led
 have HTA:=J hta
 have cells:=fun i=>hm.cell i
 have c0:=cells 0
 have c1:=cells 1
 have c2:=cells 2
 have c3:=cells 3
 have c4:=cells 4
 have c5:=cells 5
 have c6:=cells 6
 have c7:=cells 7
 have c8:=cells 8
 have c9:=cells 9
 have c10:=cells 10
 have c11:=cells 11
 have c12:=cells 12
 have c13:=cells 13
 have c14:=cells 14
 have c15:=cells 15
 have c16:=cells 16
 simp at c0 c1 c2 c3 c4 c5 c6 c7 c8 c9 c10 c11 c12 c13 c14 c15 c16
 obtain⟨HW,HM⟩:=J2 hw hm
 clear hw hm hta cells
 obtain⟨t,df⟩:=a
 obtain⟨hd,hs,h1,h3,h5,h6,-⟩:=hfr
 simp only at hd hs h1 h3 h5 h6
 subst hd
 rw [eta107 t hs,h1,h3,h5,h6]
 clear hs h1 h3 h5 h6
 refine Wq ?_
 intro K hK
 conv=>arg 2;whnf
 go_wp2_with fail
 refine HTA.out.mono ?_
 rintro e w4 ⟨⟨g2,d2,rfl⟩,hb4⟩
 clear c0 c1 c2 c3 c4 c5 c6 c7 c8 c9 c10 c11 c12 c13 c14 c15 c16
 have hba:Below w4 w4 ((w4.alloc (.cells noMail 30)).alloc (.cells (awCmd ⟨g2,0,none⟩ d2) 47)):=((Below.refl _ _).alloc (Nat.le_refl _) _).alloc (by simp) _
 have hw5:=(HW.out.below hb4).below hba
 have hm4:=HM.out.below hb4 HM.out.lt
 have hc5:=Blk.new (w4.alloc (.cells noMail 30)) 47 (awCmd ⟨g2,0,none⟩ d2)
 have HW5:=J hw5
 have HM5:=J (hm4.below hba hm4.lt)
 have HC5:=J hc5
 clear hba hw5 hm4 hc5 hb4
 go_wp2_with fail
 exact aw8 W _ _ lb g p m _ g' g2 c' d2 ⟨rfl,rfl,rfl,rfl,rfl,rfl,by simp [at_],rfl,trivial⟩ HW5.out HM5.out HC5.out hlm hgm
theorem aw6 (hfr:Fr 107 a [(1,lb),(3,g),(5,.slice (some ⟨p,0,none⟩) 2 2)]) (hw:Aw W w lb g p 2 0) :
 (part [1,1,1,1,1] (codeOf awF)).wp prog (awQ W) a w:=by
 have hta:=offer2 lb p 0 0 0 0 none 0 0 w hw.lane hw.ops
 obtain⟨HTA,HW⟩:=J2 hta hw
 clear hw hta
 obtain⟨t,df⟩:=a
 obtain⟨hd,hs,h1,h3,h5,-⟩:=hfr
 simp only at hd hs h1 h3 h5
 subst hd
 rw [eta107 t hs,h1,h3,h5]
 clear hs h1 h3 h5
 refine Wq ?_
 intro K hK
 conv=>arg 2;whnf
 go_wp2_with fail
 refine HTA.out.mono ?_
 rintro e w3 ⟨⟨g',c',rfl⟩,hb3⟩
 have hba:Below w3 w3 (w3.alloc (.cells (awShip ⟨g',0,none⟩ c') 30)):=(Below.refl _ _).alloc (Nat.le_refl _) _
 have hw3:=HW.out.below hb3
 obtain⟨HL3,HG3⟩:=J2 hw3.lane.lt hw3.led.lt
 have HW4:=J (hw3.below hba)
 have HM4:=J (Blk.new w3 30 (awShip ⟨g',0,none⟩ c'))
 clear hba hw3 hb3
 go_wp2_with fail
 exact aw7 W _ _ lb g p w3.heap.size g' c' ff HW4.out HM4.out (by have:=HL3.out;omega) (by have:=HG3.out;omega)
end
theorem awOps_cells:(opsV awOps).toArray=#[.int .i64 1,.int .i64 1,.int .i64 3,.int .i64 0,.int .i64 0,.int .i64 0,.string ⟨#[]⟩,.int .i64 0,.slice none 0 0,.int .i64 2,.int .i64 1,.int .i64 1,.int .i64 0,.int .i64 0,.int .i64 1,.string ⟨#[97]⟩,.int .i64 0,.slice none 0 0]:=by kernel_rfl
theorem awake_any (w:World) :
 Calls prog 10 #[] w fun e w'=>e=.returned (.bool true)/\Below w w w':=by
 go_enter func10,ntmps10
 conv=>arg 2;arg 2;arg 2;arg 2;arg 2;arg 2;change part [1,1,1,1,1] (codeOf awF)
 go_wp2_with fail
 refine (new_aw w).mono ?_
 rintro e w1 ⟨rfl,hw1⟩
 have hl1:Blk w1 w 127 (laneC 0 0 0 0 none 0 0 1 0 2):=by rw [hw1];exact Blk.new w _ _
 have hb1:Below w w w1:=by rw [hw1];exact (Below.refl _ _).alloc (Nat.le_refl _) _
 obtain⟨HL1,HB1⟩:=J2 hl1 hb1
 clear hw1 hl1 hb1
 go_wp2_with fail
 refine (ledger_aw w1).mono ?_
 rintro e w2 ⟨g,rfl,hg2,hgs,hb2⟩
 have hl2:=HL1.out.below hb2 HL1.out.lt
 have hlg:w.heap.size<g:=Nat.lt_of_lt_of_le HL1.out.lt hgs
 obtain⟨HL2,HG2⟩:=J2 hl2 hg2
 have HB2:=J (HB1.out.trans (hb2.mono HB1.out.size))
 have HLG:=J hlg
 clear hl2 hg2 hb2 hgs hlg
 have hops:Blk (w2.alloc (.cells #[.int .i64 1,.int .i64 1,.int .i64 3,.int .i64 0,.int .i64 0,.int .i64 0,.string ⟨#[]⟩,.int .i64 0,.slice none 0 0,.int .i64 2,.int .i64 1,.int .i64 1,.int .i64 0,.int .i64 0,.int .i64 1,.string ⟨#[97]⟩,.int .i64 0,.slice none 0 0] 45)) w2.heap.size 45 (opsV awOps).toArray:=by rw [awOps_cells];exact Blk.new w2 _ _
 have hba:Below w2 w2 (w2.alloc (.cells #[.int .i64 1,.int .i64 1,.int .i64 3,.int .i64 0,.int .i64 0,.int .i64 0,.string ⟨#[]⟩,.int .i64 0,.slice none 0 0,.int .i64 2,.int .i64 1,.int .i64 1,.int .i64 0,.int .i64 0,.int .i64 1,.string ⟨#[97]⟩,.int .i64 0,.slice none 0 0] 45)):=(Below.refl _ _).alloc (Nat.le_refl _) _
 have hw:Aw w _ w.heap.size g w2.heap.size 2 0:=⟨HB2.out.trans (hba.mono HB2.out.size),HL2.out.below hba HL2.out.lt,HG2.out.below hba HG2.out.lt,hops,HLG.out,HG2.out.lt,Nat.le_refl _⟩
 have HW:=J hw
 clear hops hba hw
 go_wp2_with fail
 exact aw6 w _ _ w.heap.size g w2.heap.size ff HW.out
end Go.Proofs.Ytaipgdhdfpemcaa
