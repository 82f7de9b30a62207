/- THE WALKS OF THE LANE, part 25. -/
import Derived.Test.YtaipgdhdfpemcaaG4
import Derived.Test.YtaipgdhdfpemcaaG9
namespace Go.Proofs.Ytaipgdhdfpemcaa
set_option linter.all false
open Go.RowKit Go.Proofs.Try
set_option maxRecDepth 100000
set_option maxHeartbeats 4000000
@[reducible] def awCmd (pA:Addr) (pc:Nat):Array Value:=
 #[.int .i64 3,.int .i64 1,.int .i64 0,.int .i64 0,.int .i64 0,.int .i64 0,.int .i64 0,.int .i64 0,.int .i64 0,.string ⟨#[]⟩,.int .i64 0,.slice none 0 0,.int .i64 2,.int .i64 1,.slice (some pA) 0 pc,.int .i64 0]
section
variable {t:TypeId} {a b c:Value} {W:World}
theorem bare0 (w:World):Calls prog 108 #[.agg #[.int .i64 0,.slice none 0 0]] w fun x w'=>x=.returned (.bool true)/\Below w w w':=by
 go_enter func108,ntmps108
 go_wp2
 go_ret
 exact Y73
theorem blank0 (w:World):Calls prog 82 #[.agg #[.int .i64 0,.int .i64 0,.int .i64 0,.int .i64 0,.int .i64 0,.int .i64 0,.string ⟨#[]⟩,.int .i64 0,.slice none 0 0]] w fun x w'=>x=.returned (.bool true)/\Below w w w':=by
 have hbl:∀ o1,Below w w (w.alloc o1):=fun o1=>(Below.refl _ _).alloc (Nat.le_refl _) _
 have HBL:=J hbl
 clear hbl
 go_enter func82,ntmps82
 go_wp2_with fail
 refine (bare0 _).mono ?_
 rintro x w1 ⟨rfl,hb1⟩
 have HB:=J hb1
 clear hb1
 go_wp2
 go_ret
 exact⟨rfl,(HBL.out _).trans (HB.out.mono (by simp))⟩
theorem reigned10 (w:World):Calls prog 85 #[.int .i64 1,.int .i64 0] w fun x w'=>x=.returned (.bool true)/\w'=w:=by
 go_enter func85,ntmps85
 exact Y154
theorem deed_aw (pA:Addr) (pc:Nat) (w:World):Calls prog 42 #[.agg (awCmd pA pc)] w fun x w'=>x=.returned (.int .i64 0)/\Below w w w':=by
 have hbk:Blk (w.alloc (.cells (awCmd pA pc) 47)) w.heap.size 47 (awCmd pA pc):=Blk.new w _ _
 have hbl:Below w w (w.alloc (.cells (awCmd pA pc) 47)):=(Below.refl _ _).alloc (Nat.le_refl _) _
 obtain⟨HBK,HBL⟩:=J2 hbk hbl
 clear hbk hbl
 go_enter func42,ntmps42
 go_wp2_with fail
 refine (blank0 _).mono ?_
 rintro x w1 ⟨rfl,hb1⟩
 have hk1:=HBK.out.below hb1 HBK.out.lt
 have hl1:=HBL.out.trans (hb1.mono HBL.out.size)
 obtain⟨c0,c1,c2⟩:=hk1.cs 0 3
 obtain⟨c12,c13,c14,c15⟩:=hk1.cs 12 4
 obtain⟨HK1,HL1⟩:=J2 hk1 hl1
 clear hb1 hk1 hl1
 go_wp2_with fail
 refine (reigned10 _).mono ?_
 rintro x w2 ⟨rfl,rfl⟩
 go_wp2_with fail
 refine (row0 _ _ 2 1 (by omega) (by omega) (by decide) _).mono ?_
 rintro x w3 ⟨rfl,hb3⟩
 have hk3:=HK1.out.below hb3 HK1.out.lt
 have hl3:=HL1.out.trans (hb3.mono HL1.out.size)
 clear c0 c1 c2 c12 c13 c14 c15
 have c14:=hk3.c1 14
 have HL3:=J hl3
 clear hb3 hk3 hl3
 go_wp2_with fail
 go_loopw [6,174] (fun a i wr=>a=.bool true/\i=.int .i64 0/\Below w w wr) (fun _ _ _=>0)
 case atStart=>exact⟨rfl,rfl,HL3.out⟩
 case round=>
  obtain⟨rfl,rfl,hb⟩:=hrel
  have HB:=J hb
  clear hb
  exact Y78
theorem set3 {g:Nat} (h:Blk W g t #[a,b,c]) (x y z:Value):Blk (((W.setCell ⟨g,0,none⟩ x).setCell ⟨g,1,none⟩ y).setCell ⟨g,2,none⟩ z) g t #[x,y,z]:=((h.set_ 0 x).set_ 1 y).set_ 2 z
section
variable (g:Nat) (pA:Addr) (pc B:Nat) (w:World) (h:LedAt w g 0) (hB:B<=g)
include g pA pc B w h hB
theorem ship_aw:Calls prog 44 #[.pointer (some ⟨g,0,none⟩),.agg (awCmd pA pc)] w fun x w'=>x=.returned (.agg #[.int .i64 121,.int .i64 0,.int .i64 0])/\LedAt w' g 1/\Below B w w'/\Save g w w':=by
 obtain⟨m1,m2,h⟩:=h
 have hg:=h.lt
 have hk:=(h.alloc (.cells (awCmd pA pc) 47)).alloc (.cells #[.int .i64 0,.int .i64 0,.int .i64 0] 50)
 have c3:=hk.cell 3
 have c4:=hk.cell 4
 have c7:=hk.cell 7
 have f7:=hk.frozen 7
 simp at c3 c4 c7
 have HK:=J hk
 clear h hk
 go_enter func44,ntmps44
 go_wp2_with fail
 go_quiet (fail)
 go_wp2_with fail
 have hk2:=(((HK.out.drewN nq).set_ 7 (.int .i64 1)).alloc (.cells #[.int .i64 2,.int .i64 1] 26))
 have hres:=((((Blk.new (w.alloc (.cells (awCmd pA pc) 47)) 50 #[.int .i64 0,.int .i64 0,.int .i64 0]).drewN nq).far (p:=⟨g,7,none⟩) (by simp;omega) (.int .i64 1)).alloc (.cells #[.int .i64 2,.int .i64 1] 26))
 have hbl:Below B w _:=((below_drewN (((Below.refl B w).alloc (by omega) (.cells (awCmd pA pc) 47)).alloc (by simp;omega) (.cells #[.int .i64 0,.int .i64 0,.int .i64 0] 50)) nq).setCell (p:=⟨g,7,none⟩) hB (.int .i64 1)).alloc (by simp;omega) (.cells #[.int .i64 2,.int .i64 1] 26)
 have hsz:(w.alloc (.cells (awCmd pA pc) 47)).heap.size=w.heap.size+1:=by simp
 rw [hsz] at hres
 have hl2:LedAt _ g 1:=⟨m1,m2,hk2⟩
 have hsm:Save g w _:=fun b hb hne=>(Below.heap_alloc _ (.cells #[.int .i64 2,.int .i64 1] 26) b (by simp;omega)).trans ((Below.heap_setCell _ ⟨g,7,none⟩ (.int .i64 1) b hne).trans (show (((w.alloc (.cells (awCmd pA pc) 47)).alloc (.cells #[.int .i64 0,.int .i64 0,.int .i64 0] 50)).drewN nq).heap[b]? = _ from (Below.heap_alloc _ _ b (by simp;omega)).trans (Below.heap_alloc _ _ b hb)))
 refine (hasLed_aw g 1 _ hl2).mono ?_
 rintro x w5 ⟨rfl,hb5⟩
 have hl5:=hl2.below hb5 hl2.lt
 have hr5:=hres.below hb5 hres.lt
 have hbl5:=hbl.trans (hb5.mono (by simp;omega))
 have hs5:=hsm.below (by simp;omega) hb5
 obtain⟨HS5,HL5,HR5,HB5⟩:=J4 hs5 hl5 hr5 hbl5
 clear hk2 hres hbl hsz hl2 hb5 hl5 hr5 hbl5 hsm hs5
 go_wp2_with fail
 refine (failed_any 121 _).mono ?_
 rintro x w6 ⟨rfl,hb6⟩
 have hl6:=HL5.out.below hb6 HL5.out.lt
 have hr6:=HR5.out.below hb6 HR5.out.lt
 have hbl6:=HB5.out.trans (hb6.mono (by have:=HL5.out.lt;omega))
 have hs6:=HS5.out.below HB5.out.size hb6
 have HS6:=J hs6
 have f0:=hr6.frozen
 obtain⟨d0,d1,d2⟩:=hr6.cs 0 3
 obtain⟨HL6,HR6,HB6⟩:=J3 hl6 hr6 hbl6
 clear hb6 hl6 hr6 hbl6 hs6 c3 c4 c7 f7
 go_wp2
 have e0:=(set3 HR6.out (.int .i64 121) (.int .i64 0) (.int .i64 0)).cell 0
 have e1:=(set3 HR6.out (.int .i64 121) (.int .i64 0) (.int .i64 0)).cell 1
 have e2:=(set3 HR6.out (.int .i64 121) (.int .i64 0) (.int .i64 0)).cell 2
 refine bodyPost_ret (v:=.agg #[.int .i64 121,.int .i64 0,.int .i64 0]) (by simp [results,results44,e0,e1,e2,go_sem]) rfl ?_
 refine⟨rfl,?_,((HB6.out.setCell (p:=⟨_,0,none⟩) (by simp;omega) _).setCell (p:=⟨_,1,none⟩) (by simp;omega) _).setCell (p:=⟨_,2,none⟩) (by simp;omega) _,((HS6.out.set (p:=⟨_,0,none⟩) (by simp) _).set (p:=⟨_,1,none⟩) (by simp) _).set (p:=⟨_,2,none⟩) (by simp) _⟩
 obtain⟨n1,n2,hh⟩:=HL6.out
 exact Y140
theorem apply_aw:Calls prog 13 #[.pointer (some ⟨g,0,none⟩),.agg (awCmd pA pc)] w fun x w'=>x=.returned (.agg #[.int .i64 121,.int .i64 0,.int .i64 0])/\LedAt w' g 1/\Below B w w'/\Save g w w':=by
 have hg:=h.lt
 have hl:=(h.below (B:=w.heap.size) (W':=(w.alloc (.cells (awCmd pA pc) 47)).alloc (.cells #[.int .i64 0,.int .i64 0,.int .i64 0] 50)) (((Below.refl _ _).alloc (Nat.le_refl _) _).alloc (by simp) _) hg)
 have hcb:=(Blk.new w 47 (awCmd pA pc)).alloc (.cells #[.int .i64 0,.int .i64 0,.int .i64 0] 50)
 have hres:=Blk.new (w.alloc (.cells (awCmd pA pc) 47)) 50 #[.int .i64 0,.int .i64 0,.int .i64 0]
 have hsz:(w.alloc (.cells (awCmd pA pc) 47)).heap.size=w.heap.size+1:=by simp
 rw [hsz] at hres
 have hbs:Below w w ((w.alloc (.cells (awCmd pA pc) 47)).alloc (.cells #[.int .i64 0,.int .i64 0,.int .i64 0] 50)):=((Below.refl _ w).alloc (Nat.le_refl _) _).alloc (by simp) _
 have hbl:Below B w ((w.alloc (.cells (awCmd pA pc) 47)).alloc (.cells #[.int .i64 0,.int .i64 0,.int .i64 0] 50)):=((Below.refl B w).alloc (by omega) _).alloc (by simp;omega) _
 obtain⟨HL,HCB,HRES,HBL,HBS⟩:=J5 hl hcb hres hbl hbs
 clear h hl hcb hres hsz hbl hbs
 go_enter func13,ntmps13
 go_wp2_with fail
 refine (deed_aw pA pc _).mono ?_
 rintro x w1 ⟨rfl,hb1⟩
 have hl1:=HL.out.below hb1 HL.out.lt
 have hcb1:=HCB.out.below hb1 HCB.out.lt
 have hres1:=HRES.out.below hb1 HRES.out.lt
 have hbl1:=HBL.out.trans (hb1.mono (by simp;omega))
 obtain⟨c0,c1,c2,c3,c4,c5,c6,c7,c8,c9,c10,c11,c12,c13,c14,c15⟩:=hcb1.cs 0 16
 have hs1:=HBS.out.trans (hb1.mono HBS.out.size)
 obtain⟨HS1,HL1,HR1,HB1⟩:=J4 hs1 hl1 hres1 hbl1
 clear hb1 hl1 hcb1 hres1 hbl1 hs1
 go_wp2_with fail
 refine (ship_aw g pA pc B w1 HL1.out hB).mono ?_
 rintro x w2 ⟨rfl,hl2,hb2,hs2⟩
 have hr2:=hs2.blk HR1.out (by omega)
 have f0:=hr2.frozen
 obtain⟨d0,d1,d2⟩:=hr2.cs 0 3
 obtain⟨HL2,HR2⟩:=J2 hl2 hr2
 have HB2:=J (HB1.out.trans hb2)
 have HS2:=J ((Save.of (g:=g) HS1.out).trans HS1.out.size hs2)
 clear hl2 hb2 hs2 hr2
 go_wp2
 have e0:=(set3 HR2.out (.int .i64 121) (.int .i64 0) (.int .i64 0)).cell 0
 have e1:=(set3 HR2.out (.int .i64 121) (.int .i64 0) (.int .i64 0)).cell 1
 have e2:=(set3 HR2.out (.int .i64 121) (.int .i64 0) (.int .i64 0)).cell 2
 refine bodyPost_ret (v:=.agg #[.int .i64 121,.int .i64 0,.int .i64 0]) (by simp [results,results13,e0,e1,e2,go_sem]) rfl ?_
 refine⟨rfl,?_,((HB2.out.setCell (p:=⟨_,0,none⟩) (by simp;omega) _).setCell (p:=⟨_,1,none⟩) (by simp;omega) _).setCell (p:=⟨_,2,none⟩) (by simp;omega) _,((HS2.out.set (p:=⟨_,0,none⟩) (by simp) _).set (p:=⟨_,1,none⟩) (by simp) _).set (p:=⟨_,2,none⟩) (by simp) _⟩
 obtain⟨n1,n2,hh⟩:=HL2.out
 exact Y140
end
end
end Go.Proofs.Ytaipgdhdfpemcaa
