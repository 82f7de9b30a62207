/-
  THE WALKS OF THE LANE: Meet tells that nothing is to be done.
-/
import Derived.Test.YtaipgdhdfpemcaaLaOwnM
import Derived.Test.YtaipgdhdfpemcaaLaRes
import Derived.Test.YtaipgdhdfpemcaaLaMeet
namespace Go.Proofs.Ytaipgdhdfpemcaa
open Go.RowKit

theorem eta128 (t : Array Value) (h : t.size = 128) : t = #[at_ t 0, at_ t 1, at_ t 2, at_ t 3, at_ t 4, at_ t 5, at_ t 6, at_ t 7, at_ t 8, at_ t 9, at_ t 10, at_ t 11, at_ t 12, at_ t 13, at_ t 14, at_ t 15, at_ t 16, at_ t 17, at_ t 18, at_ t 19, at_ t 20, at_ t 21, at_ t 22, at_ t 23, at_ t 24, at_ t 25, at_ t 26, at_ t 27, at_ t 28, at_ t 29, at_ t 30, at_ t 31, at_ t 32, at_ t 33, at_ t 34, at_ t 35, at_ t 36, at_ t 37, at_ t 38, at_ t 39, at_ t 40, at_ t 41, at_ t 42, at_ t 43, at_ t 44, at_ t 45, at_ t 46, at_ t 47, at_ t 48, at_ t 49, at_ t 50, at_ t 51, at_ t 52, at_ t 53, at_ t 54, at_ t 55, at_ t 56, at_ t 57, at_ t 58, at_ t 59, at_ t 60, at_ t 61, at_ t 62, at_ t 63, at_ t 64, at_ t 65, at_ t 66, at_ t 67, at_ t 68, at_ t 69, at_ t 70, at_ t 71, at_ t 72, at_ t 73, at_ t 74, at_ t 75, at_ t 76, at_ t 77, at_ t 78, at_ t 79, at_ t 80, at_ t 81, at_ t 82, at_ t 83, at_ t 84, at_ t 85, at_ t 86, at_ t 87, at_ t 88, at_ t 89, at_ t 90, at_ t 91, at_ t 92, at_ t 93, at_ t 94, at_ t 95, at_ t 96, at_ t 97, at_ t 98, at_ t 99, at_ t 100, at_ t 101, at_ t 102, at_ t 103, at_ t 104, at_ t 105, at_ t 106, at_ t 107, at_ t 108, at_ t 109, at_ t 110, at_ t 111, at_ t 112, at_ t 113, at_ t 114, at_ t 115, at_ t 116, at_ t 117, at_ t 118, at_ t 119, at_ t 120, at_ t 121, at_ t 122, at_ t 123, at_ t 124, at_ t 125, at_ t 126, at_ t 127] := (eta_ t h).trans (by kernel_rfl)

@[reducible] noncomputable def meetF : Func := Try.f16
theorem Try.sizeCmd : (Try.prog.info? 47).map (·.size) = some 16 := by kernel_rfl
theorem noMail_one : noMail.all (·.oneCell') = true := mailC_one
theorem noCmd_one : noCmd.all (·.oneCell') = true := all_oneCell_toArray (by
  intro v hv
  simp only [List.mem_cons, List.not_mem_nil, or_false] at hv
  rcases hv with rfl | rfl | rfl | rfl | rfl | rfl | rfl | rfl | rfl | rfl | rfl | rfl | rfl | rfl | rfl | rfl <;> rfl)

def MeetNV : Nat → Value → World → Prop
  | 0, v, _ => v = .agg noMail
  | 1, v, _ => v = .agg noCmd
  | 4, v, _ => v = .int .i64 0
  | _, _, _ => True

set_option maxRecDepth 100000 in
set_option maxHeartbeats 4000000 in
theorem meet_none (R : Ending → World → Prop) {Q : Exit → Act → World → Prop} (hQ : ∀ a w, bodyPost Try.prog meetF R .ret a w → Q .ret a w) (B : Nat) (W0 : World) (a : Act) (w : World) (b6 b7 : Nat)
    (hfr : Fr 128 a [(6, .pointer (some ⟨b6, 0, none⟩)), (7, .pointer (some ⟨b7, 0, none⟩))])
    (h6 : Blk w b6 30 noMail) (h7 : Blk w b7 47 noCmd) (hne : b6 ≠ b7) (hB6 : B ≤ b6) (hB7 : B ≤ b7) (hb : Below B W0 w)
    (hR : ∀ w', Below B W0 w' → R (.returned (.tuple #[.agg noMail, .agg noCmd, .int .i64 0])) w') :
    (part [1, 1, 0, 1, 0] (codeOf meetF)).wp Try.prog Q a w := by
  obtain ⟨t, df⟩ := a
  obtain ⟨hd, hs, h6, h7, -⟩ := hfr
  simp only at hd hs h6 h7
  subst hd
  rw [eta128 t hs, h6, h7]
  clear hs h6 h7
  refine wp_part (x := part [1, 1, 0, 1, 0, 0] (codeOf meetF)) (y := part [1, 1, 0, 1, 0, 1] (codeOf meetF)) (by kernel_rfl) ?_
  intro K hK
  conv => arg 2; whnf
  refine wp_region_stores (by kernel_rfl) MeetNV (fun W => Blk W b6 30 noMail ∧ Blk W b7 47 noCmd ∧ Below B W0 W) (fun _ _ => True) (by kernel_rfl) ?hG ?hmono ?hstep ?hend
  case hG => exact ⟨h6.drew, h7.drew, hb.drew⟩
  case hmono =>
    intro i v W W' _ hv
    match i with
    | 0 | 1 | 2 | 3 | 4 => exact hv
    | i + 5 => exact hv
  case hstep =>
    intro i o F U W ho hGW hat hoff hp
    have r6 : F.eval (.tmp 6) = .pointer (some ⟨b6, 0, none⟩) := (hoff 6 (of_decide_eq_true (by kernel_rfl))).trans rfl
    have r7 : F.eval (.tmp 7) = .pointer (some ⟨b7, 0, none⟩) := (hoff 7 (of_decide_eq_true (by kernel_rfl))).trans rfl
    match i with
    | 0 =>
      injection (show some _ = some o from ho) with ho
      subst ho
      exact wp_load_mid 30 (.tmp 6) rfl b6 0 r6 _ _ hGW.1.range Try.underlying30 rfl Try.sizeMail ⟨_, rfl, rfl, hGW, trivial⟩
    | 1 =>
      injection (show some _ = some o from ho) with ho
      subst ho
      exact wp_load_mid 47 (.tmp 7) rfl b7 0 r7 _ _ hGW.2.1.range Try.underlying47 rfl Try.sizeCmd ⟨_, rfl, rfl, hGW, trivial⟩
    | 2 =>
      injection (show some _ = some o from ho) with ho
      subst ho
      have hv0 : MeetNV 0 (U 0) W := hp ⟨0, .data⟩ (by simp) rfl
      have ht0 := hat 0 41 (of_decide_eq_true (by kernel_rfl)) rfl
      refine wp_store_mid 30 (.tmp 6) (.tmp 41) rfl b6 0 noMail r6 (ht0.trans hv0) (hGW.1.there_ 0 _ (Nat.le_refl _)) Try.sizeMail noMail_one ⟨_, rfl, trivial, ⟨?_, ?_, ?_⟩, trivial⟩
      · exact hGW.1.setCells_ _ rfl
      · exact (save_setCells W b6 0 _).blk hGW.2.1 (Ne.symm hne)
      · exact below_setCells hB6 hGW.2.2 _ _
    | 3 =>
      injection (show some _ = some o from ho) with ho
      subst ho
      have hv1 : MeetNV 1 (U 1) W := hp ⟨1, .data⟩ (by simp) rfl
      have ht1 := hat 1 42 (of_decide_eq_true (by kernel_rfl)) rfl
      refine wp_store_mid 47 (.tmp 7) (.tmp 42) rfl b7 0 noCmd r7 (ht1.trans hv1) (hGW.2.1.there_ 0 _ (Nat.le_refl _)) Try.sizeCmd noCmd_one ⟨_, rfl, trivial, ⟨?_, ?_, ?_⟩, trivial⟩
      · exact (save_setCells W b7 0 _).blk hGW.1 hne
      · exact hGW.2.1.setCells_ _ rfl
      · exact below_setCells hB7 hGW.2.2 _ _
    | 4 =>
      injection (show some _ = some o from ho) with ho
      subst ho
      exact wp_assign' (.const (.int .i64 0)) rfl ⟨_, rfl, rfl, hGW, trivial⟩
    | i + 5 => exact absurd ho (by simp)
  case hend =>
    intro U W hGW hV
    have h4 : U 4 = .int .i64 0 := hV 4 (of_decide_eq_true (by kernel_rfl))
    refine hK _ _ ?_
    conv => arg 2; whnf
    refine wp_ret (hQ _ _ ?_)
    refine bodyPost_ret (meet_results (b6 := b6) (b7 := b7) (by simp [putU, dstAt, Act.put]) (by simp [putU, dstAt, Act.put]) (by simp [putU, dstAt, Act.put]; exact h4) hGW.1 hGW.2.1) (by simp [putU, dstAt, Act.put]) ?_
    exact hR _ hGW.2.2
end Go.Proofs.Ytaipgdhdfpemcaa
