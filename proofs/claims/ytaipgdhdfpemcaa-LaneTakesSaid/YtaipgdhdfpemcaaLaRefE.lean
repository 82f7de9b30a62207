/-
  THE WALKS OF THE LANE: the reference's epochs.
-/
import Derived.Test.YtaipgdhdfpemcaaLaRefS
import Derived.Test.YtaipgdhdfpemcaaLaTk2
namespace Go.Proofs.Ytaipgdhdfpemcaa
open Go.RowKit

theorem intV_append (a b : List Int) : intV .i64 (a ++ b) = intV .i64 a ++ intV .i64 b := by simp [intV]
set_option maxRecDepth 100000 in
set_option maxHeartbeats 2000000 in
theorem repochs_any {A : Option Addr} {n c : Nat} {S : Nat → Prop} (os : List OpC) (w : World) (h : OpsIs w S A n c os) (hn : n ≤ 4294967296) :
    Calls Try.prog 67 #[.slice A n c] w fun x w' => ∃ A' c', x = .returned (.slice A' n c') ∧ IntIs w' (From w.heap.size) A' n c' (os.map (·.epoch)) ∧ Below w.heap.size w w' := by
  have hlen := h.len
  have HR := Lib.hid h
  have HL := Lib.hid hlen
  clear h hlen
  obtain ⟨i0, hi0, hz0, hz1, hz2⟩ := info_parts Try.infoInt
  have HI := Lib.hid hi0
  have HZ0 := Lib.hid hz0
  have HZ1 := Lib.hid hz1
  have HZ2 := Lib.hid hz2
  clear hi0 hz0 hz1 hz2
  go_enter Try.func67, Try.ntmps67
  go_wp2_with fail
  go_loopw [3, 4] (fun v i wr => ∃ (k : Nat), k ≤ n ∧ i = .int .i64 k ∧ wr.ownsRow w.heap.size 3 1 v k (intV .i64 ((os.map (·.epoch)).take k)) ∧ Below w.heap.size w wr) (fun _ i _ => n - (intOf i).toNat)
  case atStart => exact ⟨0, by omega, rfl, World.ownsRow_nil _ _ _ _, Below.refl _ _⟩
  case round =>
    obtain ⟨k, hk, rfl, hown, hb⟩ := hrel
    have HB := Lib.hid hb
    have HW := Lib.hid hown
    clear hb hown
    rcases Nat.lt_or_ge k n with hk1 | hk1
    · obtain ⟨ad, o, hA, hn', hc, rfl, hab, hck, hop, hss⟩ := (HR.out.below HB.out).at_ hk1
      obtain ⟨k0, k1, k2, k3, k4, k5, k6, k7, k8⟩ := hop
      simp only [OpC.at_] at k1
      have htk : (os.map (·.epoch)).take (k + 1) = (os.map (·.epoch)).take k ++ [o.epoch] := by rw [List.take_add_one, List.getElem?_map, hck]; rfl
      have HTK := Lib.hid htk
      have hnb : Blk (wr.alloc (.cells #[.int .i64 o.epoch] 3)) wr.heap.size 3 #[.int .i64 o.epoch] := Blk.new _ _ _
      have HNB := Lib.hid hnb
      clear hck hss htk k0 k2 k3 k4 k5 k6 k7 k8 hnb
      go_wp2_with (at_builtin; refine wpList_append_any _ rfl (.tmp 11) (.tmp 17) _ rfl w.heap.size 3 i0 _ 1 8 Try.underlying27 HI.out HZ0.out HZ1.out HZ2.out rfl (by omega) u3 k (intV .i64 ((os.map (·.epoch)).take k)) rfl (HW.out.alloc _) _ (some ⟨wr.heap.size, 0, none⟩) 1 1 (intV .i64 [o.epoch]) rfl (HNB.out.reads (n := 1) (size := 1) rfl) (intV_one _) ?d1 ?d2 ?d3 ?_)
      case d1 => unfold maxLen; omega
      case d2 => omega
      case d3 => have := HB.out.size; simp; omega
      intro v2 w5 hown5 hg5 hat5
      have hb5 : Below w.heap.size w w5 := (HB.out.alloc HB.out.size _).grown hg5 (by have := HB.out.size; simp; omega) (by intro j hj; exact (HW.out.lt j hj).1)
      rw [← intV_append, ← HTK.out] at hown5
      have E4 := Lib.hid hown5
      have E5 := Lib.hid hb5
      clear hown5 hg5 hat5 hb5
      go_wp2
      go_roundw
      case rel => exact ⟨k + 1, by omega, by go_num, E4.out, E5.out⟩
      case measure => simp [intOf]; omega
    · obtain rfl : n = k := by omega
      obtain ⟨A', c', rfl, hc1, hcm, hrd⟩ := own_slice HW.out
      have hl : (os.map (·.epoch)).take n = os.map (·.epoch) := List.take_of_length_le (by rw [List.length_map, HL.out]; exact Nat.le_refl _)
      rw [hl] at hrd
      have hrs : IntIs wr (From w.heap.size) A' n c' (os.map (·.epoch)) := ⟨Rs.of hrd fun _ ad e => (HW.out.lt ad.block (by rw [e]; rfl)).1, hc1, hcm⟩
      have HRS := Lib.hid hrs
      clear hcm hrd hrs hl
      go_wp2
      go_ret
      exact ⟨A', c', rfl, HRS.out, HB.out⟩
end Go.Proofs.Ytaipgdhdfpemcaa
