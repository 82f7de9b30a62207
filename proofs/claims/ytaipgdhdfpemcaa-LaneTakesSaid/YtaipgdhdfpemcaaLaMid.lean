/-
  AGGREGATES LOADED AND STORED WHOLE, by blocks that are known whole; operations of a plain region met one by one. No program in sight but the variable P.
-/
import Derived.Test.YtaipgdhdfpemcaaFr
import Derived.Test.YtaipgdhdfpemcaaPut
import Derived.Test.YtaipgdhdfpemcaaDraw2
import Derived.Deep.MidRow
namespace Go.Proofs.Ytaipgdhdfpemcaa
open Go.RowKit

theorem putCells_eq (b : Nat) : ∀ (l : List Value) (w : World) (i : Nat), w.setCells b i l = putCells w b i l
  | [], _, _ => rfl
  | _ :: l, _, i => putCells_eq b l _ (i + 1)
section
variable {w W : World} {b : Nat} {t : TypeId} {cs : Array Value}
theorem Blk.range (h : Blk w b t cs) : w.rangeAt b 0 cs.toList := by
  intro j v hv
  rw [Nat.zero_add, h.cell j, ← hv]
  simp
theorem Blk.rangeAt_ (h : Blk w b t cs) (o : Nat) (vs : List Value) (hv : ∀ j v, vs[j]? = some v → cs[o + j]? = some v) : w.rangeAt b o vs := by
  intro j v hj
  rw [h.cell (o + j)]
  exact hv j v hj
theorem Blk.there_ (h : Blk w b t cs) (o n : Nat) (hn : o + n ≤ cs.size) : w.there b o n := by
  intro j hj
  rw [h.cell (o + j)]
  exact ⟨by rw [Array.getElem?_eq_getElem (by omega)]; rfl, h.frozen _⟩
theorem Blk.setCells_ (h : Blk w b t cs) (vs : List Value) (hs : cs.size = vs.length) : Blk (w.setCells b 0 vs) b t vs.toArray := by
  rw [putCells_eq]
  exact putCells_blk h hs
/-- some cells of a block written: what it holds then -/
theorem Blk.setPart (h : Blk w b t cs) (o : Nat) (vs : List Value) (ho : o + vs.length ≤ cs.size) :
    ∃ cs', Blk (w.setCells b o vs) b t cs' ∧ cs'.size = cs.size ∧ (∀ j, j < o → cs'[j]? = cs[j]?) ∧ (∀ j, j < vs.length → cs'[o + j]? = vs[j]?) ∧ (∀ j, o + vs.length ≤ j → cs'[j]? = cs[j]?) := by
  rw [putCells_eq]
  exact putCells_blk' b t vs w o cs h ho
theorem below_setCells {B : Nat} (hB : B ≤ b) (h : Below B W w) (o : Nat) (vs : List Value) : Below B W (w.setCells b o vs) := by
  rw [putCells_eq]
  exact putCells_below hB vs W w o h
theorem save_setCells (w : World) (b o : Nat) (vs : List Value) : Save b w (w.setCells b o vs) := by
  rw [putCells_eq]
  exact putCells_save b vs w o
theorem size_setCells (w : World) (b o : Nat) (vs : List Value) : (w.setCells b o vs).heap.size = w.heap.size := by
  rw [putCells_eq]
  exact putCells_size b vs w o
end

section
variable {P : Program} {w : World}
theorem results_cell {fn : Func} {t : Tmp} {ty : TypeId} (h : fn.results = #[.cell t ty]) {tmps : Array Value} {b : Nat} {cs : List Value} {d : TypeDesc} (hp : tmps.getD t undef = .pointer (some ⟨b, 0, none⟩)) (hr : w.rangeAt b 0 cs)
    (hu : P.underlying ty = some d) (hd : d.isRow = true) (hi : (P.info? ty).map (·.size) = some cs.length) : (results fn tmps).run P w = .ok (.agg cs.toArray) w := by
  have hl := run_loadVar_mid (P := P) w b 0 ty cs d hr hu hd hi
  rw [Array.getD_eq_getD_getElem?] at hp
  simp [results, h, hp, hl, asAddr]
variable {ops : Array Oper} {rest : List Oper} {o : Oper} {a : Act} {Q : Exit → Act → World → Prop}
theorem wpList_value' (hgd : o.guard = none) (v : Value) (W' : World) (h : (execOp a.eval o).run P w = .ok (.value v) W') (hk : wpList P ops Q rest (a.put o.dst v) W') : wpList P ops Q (o :: rest) a w :=
  wpList_plain hgd fun _ hK => wp_value' v W' h (hK _ _ hk)
theorem wpList_enter' (hgd : o.guard = none) (f : FuncId) (args : Array Value) (h : (execOp a.eval o).run P w = .ok (.enter f args) w) (hc : Calls P f args w fun e W' => ∃ v, e = .returned v ∧ wpList P ops Q rest (a.put o.dst v) W') : wpList P ops Q (o :: rest) a w :=
  wpList_plain hgd fun _ hK => wp_enter' f args h (hc.mono fun _ _ ⟨v, he, hw⟩ => ⟨v, he, hK _ _ hw⟩)
end
end Go.Proofs.Ytaipgdhdfpemcaa
