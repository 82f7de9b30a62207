/-
  SeamCommon, PROVED: the row's step round the walk. Conditions: none (the given statement, as it stands).
-/
import Derived.Test.YtbbmdiagfcidiaaSeamCom
import Derived.Test.YtbbmdiagfcidiaaOpen
import Derived.ProofKit
import Derived.SizedLaws
import Derived.Deep.Matrix
import Derived.OpenShut
import Derived.ShutString
import Derived.ChangeOld
import Derived.Below
import Derived.Lib.SmallJoins
namespace Go.Proofs.Ytbbmdiagfcidiaa.seamCommon
open Go.ChangeShapes Go.WideShapes Go.ChangeAt Go.RowKit Go.Deep
open Go.ChangeMaps (open_string shut_string)

theorem own : ownKnob Try.prog.godebug = none := by kernel_rfl
theorem laidOut : laidOutB Try.prog = true := by kernel_rfl

theorem bytesRow : Try.prog.bytesOf 23 = 24 := by kernel_rfl
theorem bytesInt : Try.prog.bytesOf 3 = 8 := by kernel_rfl
theorem reach_eq : reachBytes ≤ 140737488351232 + 4096 := by decide
theorem weightsAll_mem {H : Type} {P : Program} {t : TypeId} {x : DataW H} : ∀ {ds : List (DataW H)}, x ∈ ds → ∀ m ∈ x.weights P t, m ∈ DataW.weightsAll P t ds
  | d :: ds, hx, m, hm => by
    simp only [DataW.weightsAll, List.mem_append]
    rcases List.mem_cons.1 hx with rfl | hx
    · exact Or.inl hm
    · exact Or.inr (weightsAll_mem hx m hm)
theorem sized_inner {H : Type} {P : Program} {ts : List TypeId} {ds : List (DataW H)} (h : (DataW.weightsEach P ts ds).all (· ≤ reachBytes) = true) {j : Nat} {t e q : TypeId} {elems spare e' sp' : List (DataW H)}
    (ht : ts[j]? = some t) (hd : ds[j]? = some (.slice elems spare)) (hu : P.underlying t = some (.slice e)) (hu2 : P.underlying e = some (.slice q)) (hx : DataW.slice e' sp' ∈ elems) : (e'.length + sp'.length) * P.bytesOf q ≤ reachBytes := by
  refine of_decide_eq_true (List.all_eq_true.1 h _ (DataW.weights_mem_each ht hd _ ?_))
  simp only [DataW.weights, hu, List.mem_cons, List.mem_append]
  exact Or.inr (Or.inl (weightsAll_mem hx _ (by simp [DataW.weights, hu2])))

/-- the lists, opened -/
theorem open_rows {H : Type} {enc : TypeId × Value → H} {P : Program} {w : World} {t e q : TypeId} (ht : P.underlying t = some (.slice e)) (he : P.underlying e = some (.slice q)) (hq : P.underlying q = some (.int .i64)) (ce : P.cellsOf e = 1) (cq : P.cellsOf q = 1)
    {A : Option Addr} {len cap : Nat} {d : DataW H} {p : List MemPlace} (h : DataW.Trod enc P w 0 (fun _ => true) true t (.slice A len cap) d p)
    (hsz : ∀ elems spare, d = .slice elems spare → (elems.length + spare.length) * 24 ≤ reachBytes ∧ ∀ e' sp', DataW.slice e' sp' ∈ elems → (e'.length + sp'.length) * 8 ≤ reachBytes) :
    ∃ ls, LReads0 w w.heap.size A len ls ∧ len ≤ 5864062014805 := by
  obtain ⟨fuel, hf⟩ := h
  rcases open_int_rows ht he hq ce cq hf with ⟨hcs, _⟩ | ⟨a, len', cap', A', L, C, Z, hcs, _, hl, hm, hx, hrow⟩
  · simp [Value.cells] at hcs
    obtain ⟨rfl, rfl, rfl⟩ := hcs
    exact ⟨[], ⟨rfl, fun k hk => absurd hk (by omega)⟩, by omega⟩
  · simp [Value.cells] at hcs
    obtain ⟨rfl, rfl, rfl⟩ := hcs
    simp only [Prod.mk.injEq] at hx
    obtain ⟨rfl, _⟩ := hx
    obtain ⟨h1, h2⟩ := hsz _ _ rfl
    have hre := reach_eq
    simp only [List.length_map, List.length_range] at h1
    refine ⟨(List.range len).map fun r => (Z r).take (L r), ⟨by simp, fun k hk => ?_⟩, by omega⟩
    obtain ⟨hc, hlc, hcm, hzl, hzw, hnn, hcells⟩ := hrow k (by omega)
    refine ⟨a, A' k, L k, C k, rfl, ?_, hc, ?_, ?_⟩
    · have h2 := block_lt hc
      rwa [block_of_add] at h2
    · have eg : ((List.range len).map fun r => (Z r).take (L r)).getD k [] = (Z k).take (L k) := by simp [List.getD, hk]
      rw [eg]
      refine ⟨by simp [intV]; omega, fun hn => ?_⟩
      cases hA : A' k with
      | none => exact absurd (hnn hA) (by omega)
      | some a' =>
        obtain ⟨_, hcl⟩ := hcells a' hA
        refine ⟨a', rfl, ?_, fun j u hu => ?_⟩
        · have h3 := block_lt (hcl 0 (by omega))
          rwa [block_of_add] at h3
        · have hj : j < ((Z k).take (L k)).length := by
            have := (List.getElem?_eq_some_iff.1 hu).1
            simpa [intV] using this
          rw [intV_at .i64 _ j hj] at hu
          injection hu with hu
          subst hu
          have hj2 : j < L k := by simp at hj; omega
          rw [hcl j (by omega)]
          have hjz : j < (Z k).length := by omega
          simp [List.getD, hjz]
    · cases hA : A' k with
      | none => have := hnn hA; omega
      | some a' =>
        have h4 := h2 _ _ (List.mem_map.2 ⟨k, List.mem_range.2 hk, by simp only [intRow, hA]; rfl⟩)
        simp [lits] at h4
        omega

set_option maxRecDepth 100000 in
theorem lifted (os : Os) (started : os.Started) (H : Type) (enc : TypeId × Value → H) :
    ReturnsInHanded {} Try.checked os 3 .any (Rows.seamCommonSpec.pre6 enc Try.prog Try.f3 Rows.seamCommonRow.domain false) (Rows.seamCommonSpec.post enc Try.prog Try.f3 false true false false) := by
  refine returnsInHanded_of_change_sized (C := Try.checked) own started (by kernel_rfl) Try.func3
    (ChangeSpec.witness6 (enc := enc) (C := Try.checked) false ⟨#[], #[.slice none 0 0], []⟩ 8 (by kernel_rfl) (by kernel_rfl) (by kernel_rfl) (by kernel_rfl)) ?_
  intro W base args ds gs before hval0 hW hcnd hsz0 _
  have hsz : (DataW.weightsEach Try.prog (Try.f3.params.toList ++ Rows.seamCommonSpec.plain.varTypes Try.prog) (ds ++ gs)).all (· ≤ reachBytes) = true := hsz0
  clear hsz0
  have hval : ∀ (j : Nat) t v, Try.f3.params[j]? = some t → args[j]? = some v → Value.okWide Try.prog W .any base t v := hval0
  have hW' := hW
  obtain ⟨p, q, hA0, hV, rfl, hfz, hnd⟩ := hW
  have hA : DataW.TrodAll enc Try.prog W 0 (fun _ => true) true Try.f3.params.toList args.toList ds p := hA0
  rw [Try.params3] at hA hval hsz
  obtain ⟨v0, vs0, d0, ds0, p0, q0, hargs, rfl, rfl, h0, r0⟩ := trodAll_cons hA
  obtain ⟨rfl, rfl, rfl⟩ := trodAll_nil r0
  obtain rfl : args = #[v0] := by cases args; simp_all
  obtain ⟨rfl, rfl⟩ := trodVars_none hV
  have k0 := h0
  have lt0 := trod_places k0
  obtain ⟨A0, n0, c0, rfl⟩ := okWide_slice Try.underlying22 (hval 0 22 v0 rfl rfl)
  obtain ⟨l0, hr0, hn0⟩ := open_rows Try.underlying22 Try.underlying23 Try.underlying3 (by kernel_rfl) (by kernel_rfl) h0 (fun elems spare e => ⟨by
    subst e
    have := sized_slice hsz (j := 0) (t := 22) (e := 23) rfl rfl Try.underlying22
    rwa [bytesRow] at this, fun e' sp' hx => by
    subst e
    have := sized_inner hsz (j := 0) (t := 22) (e := 23) (q := 3) rfl rfl Try.underlying22 Try.underlying23 hx
    rwa [bytesInt] at this⟩)
  clear hA0 hval0
  refine (seamCommon_walk W A0 n0 c0 l0 hr0 hn0).mono fun e W' ⟨he, bel⟩ => ?_
  subst he
  exact ⟨_, rfl, _, _, _, [], _, [], hW', trodAll_mk1 (shut_bool Try.underlying4 _), (trodAll_cons_mk (Below.trod laidOut (by kernel_rfl) (of_decide_eq_true (by kernel_rfl)) k0 bel lt0) trodAll_mk0), rfl, bel.frame _, fun h => by cases h⟩

theorem over : Rows.seamCommonRow.holds Try.pinned (OpenSpec.ofChange Rows.seamCommonSpec) :=
  OpenClaim.holds_of_wide 3 Try.f3 rfl rfl rfl rfl rfl rfl rfl ⟨rfl, rfl, rfl, rfl, rfl⟩ rfl rfl rfl rfl rfl (by kernel_rfl) Try.func3 (by kernel_rfl)
    (of_decide_eq_true (by kernel_rfl)) (by unfold Func.isWrapper; first | (rw [if_pos (by decide +kernel)]; kernel_rfl) | (rw [if_neg (by decide +kernel)]; exact ⟨rfl, rfl⟩))
    (fun os started H enc _ => lifted os started H enc)

/-- SeamCommon: the given statement -/
theorem proved : Rows.SeamCommonSaid := over
#print axioms proved
end Go.Proofs.Ytbbmdiagfcidiaa.seamCommon
