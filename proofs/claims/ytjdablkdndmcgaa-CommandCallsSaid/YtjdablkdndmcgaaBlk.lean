/- Blocks known whole. No program of its own. -/
import Derived.Test.YtjdablkdndmcgaaMem
import Derived.RangeFuncNested
import Derived.Laws.ResultCell
import Derived.Laws.Rows
namespace Go.Proofs.Ytjdablkdndmcgaa
set_option linter.unusedVariables false
set_option linter.unusedSimpArgs false
open Go.RowKit
/-- Block g is a row of just these cells. -/
def Blk (w : World) (g : Nat) (ty : TypeId) (cs : List Value) : Prop := w.heap[g]? = some (.cells cs.toArray ty (0, 0))
theorem Blk.lt {w : World} {g : Nat} {ty : TypeId} {cs : List Value} (h : Blk w g ty cs) : g < w.heap.size := (Array.getElem?_eq_some_iff.1 h).1
theorem Blk.new (w : World) (ty : TypeId) (cs : List Value) : Blk (w.alloc (.cells cs.toArray ty)) w.heap.size ty cs := World.alloc_heap_new w _
theorem Blk.kept {w w' : World} {g : Nat} {ty : TypeId} {cs : List Value} {row : Option Nat} (h : Blk w g ty cs) (hg : w.grownBy w' row) (hne : some g ≠ row) : Blk w' g ty cs := (hg.block g h.lt hne).trans h
theorem Blk.below {w w' : World} {g : Nat} {ty : TypeId} {cs : List Value} (h : Blk w g ty cs) (hb : Below w.heap.size w w') : Blk w' g ty cs := (hb.block g h.lt).trans h
theorem Blk.alloc {w : World} {g : Nat} {ty : TypeId} {cs : List Value} (h : Blk w g ty cs) (o : Obj) : Blk (w.alloc o) g ty cs := h.kept (World.grownBy_alloc w o none) (by simp)
theorem Blk.cell {w : World} {g : Nat} {ty : TypeId} {cs : List Value} (h : Blk w g ty cs) (j : Nat) : w.cell? ⟨g, j, none⟩ = cs[j]? := by rw [cell_of_row w g j _ _ _ h]; simp
theorem Blk.frozen {w : World} {g : Nat} {ty : TypeId} {cs : List Value} (h : Blk w g ty cs) (j : Nat) : w.frozen? ⟨g, j, none⟩ = false := frozen_of_row w g j _ _ h
theorem Blk.set {w : World} {g : Nat} {ty : TypeId} {cs : List Value} (h : Blk w g ty cs) (i : Nat) (v : Value) : Blk (w.setCell ⟨g, i, none⟩ v) g ty (cs.set i v) := by
  have := Go.heap_setCell_same w g i _ _ v h
  unfold Blk
  rw [this]
  simp
theorem Blk.other {w : World} {g g' i : Nat} {ty : TypeId} {cs : List Value} (h : Blk w g ty cs) (hne : g ≠ g') (v : Value) : Blk (w.setCell ⟨g', i, none⟩ v) g ty cs := (heap_setCell_other w ⟨g', i, none⟩ g v hne).trans h
theorem grownBy_cell (w : World) (g i : Nat) (v : Value) : w.grownBy (w.setCell ⟨g, i, none⟩ v) (some g) := by
  refine ⟨rfl, rfl, rfl, by simp, fun k _ hk => heap_setCell_other w ⟨g, i, none⟩ k v fun e => hk (by rw [e])⟩
/-- A result that lies in a block. -/
theorem ret_blk {P : Program} {fn : Func} {p : Tmp} {ty : TypeId} {a : Act} {w : World} {Q : Ending → World → Prop} (h : fn.results = #[.cell p ty]) {g : Nat} {cs : List Value} (hp : a.tmps.getD p undef = .pointer (some ⟨g, 0, none⟩)) (hb : Blk w g ty cs)
    {d : TypeDesc} (hu : P.underlying ty = some d) (hd : (match d with | .struct _ | .array _ _ => true | _ => false) = true) (hi : (P.info? ty).map (·.size) = some cs.length) (hq : Q (.returned (.agg cs.toArray)) w) (hdf : a.defers = [] := by rfl) : bodyPost P fn Q .ret a w :=
  bodyPost_ret (v := .agg cs.toArray) (results_cell_row h _ w g ty cs.toArray (0, 0) d hp hb hu hd (by simpa using hi)) hdf hq
/-- A block and a slot as results. -/
theorem ret_blk2 {P : Program} {fn : Func} {p u : Tmp} {ty : TypeId} {a : Act} {w : World} {Q : Ending → World → Prop} (h : fn.results = #[.cell p ty, .tmp u]) {g : Nat} {cs : List Value} {x : Value} (hp : a.tmps.getD p undef = .pointer (some ⟨g, 0, none⟩)) (hx : a.tmps.getD u undef = x) (hb : Blk w g ty cs)
    {d : TypeDesc} (hu : P.underlying ty = some d) (hd : (match d with | .struct _ | .array _ _ => true | _ => false) = true) (hi : (P.info? ty).map (·.size) = some cs.length) (hq : Q (.returned (.tuple #[.agg cs.toArray, x])) w) (hdf : a.defers = [] := by rfl) : bodyPost P fn Q .ret a w :=
  bodyPost_ret (v := .tuple #[.agg cs.toArray, x]) (by rw [results_cell_tmp h, hp, hx]; simp [asAddr, run_loadVar_row w g ty ty cs.toArray (0, 0) d hb hu hd (by simpa using hi), Result.andThen]) hdf hq
end Go.Proofs.Ytjdablkdndmcgaa
