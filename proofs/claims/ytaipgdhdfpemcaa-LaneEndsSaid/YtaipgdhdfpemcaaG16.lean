/- THE WALKS OF THE LANE, part 16. -/
import Derived.Test.YtaipgdhdfpemcaaG6
namespace Go.Proofs.Ytaipgdhdfpemcaa
set_option linter.all false
open Go.RowKit Go.Proofs.Try
set_option maxRecDepth 100000
set_option maxHeartbeats 4000000
theorem check10c (w:World):Calls prog 27 #[.agg awAnswer] w fun x w'=>x=.returned (.int .i64 0)/\Below w w w':=by
 have hbk:∀ o1,Blk ((w.alloc (.cells awAnswer 30)).alloc o1) w.heap.size 30 awAnswer:=fun o1=>(Blk.new w _ _).alloc o1
 have hbl:∀ o1,Below w w ((w.alloc (.cells awAnswer 30)).alloc o1):=fun o1=>((Below.refl _ _).alloc (Nat.le_refl _) _).alloc (by simp) _
 have HBL:=J hbl
 clear hbk hbl
 go_enter func27,ntmps27
 go_wp2_with fail
 refine (within_new 1 5 10 _ _ _ (by simp)).mono ?_
 rintro x w1 ⟨rfl,rfl⟩
 go_wp2_with fail
 refine (other10c _).mono ?_
 rintro x w1 ⟨rfl,hb1⟩
 have HB:=J ((HBL.out (.cells #[.int .i64 10] 3)).trans (hb1.mono (HBL.out (.cells #[.int .i64 10] 3)).size))
 clear hb1
 exact Y78
theorem check9c (pA:Addr) (pc:Nat) (w:World):Calls prog 27 #[.agg (awShip pA pc)] w fun x w'=>x=.returned (.int .i64 0)/\Below w w w':=by
 have hbl:∀ o1,Below w w ((w.alloc (.cells (awShip pA pc) 30)).alloc o1):=fun o1=>((Below.refl _ _).alloc (Nat.le_refl _) _).alloc (by simp) _
 have HBL:=J hbl
 clear hbl
 go_enter func27,ntmps27
 go_wp2_with fail
 refine (within_new 1 5 9 _ _ _ (by simp)).mono ?_
 rintro x w1 ⟨rfl,rfl⟩
 go_wp2_with fail
 refine (other9c pA pc _).mono ?_
 rintro x w1 ⟨rfl,hb1⟩
 have HB:=J ((HBL.out (.cells #[.int .i64 9] 3)).trans (hb1.mono (HBL.out (.cells #[.int .i64 9] 3)).size))
 clear hb1
 exact Y78
end Go.Proofs.Ytaipgdhdfpemcaa
