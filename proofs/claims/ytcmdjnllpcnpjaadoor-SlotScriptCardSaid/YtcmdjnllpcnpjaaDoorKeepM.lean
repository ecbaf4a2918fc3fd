/- What a call keeps that writes some blocks only. No program of its own. -/
import Derived.Test.YtcmdjnllpcnpjaaDoorMemV
import Derived.Test.YtcmdjnllpcnpjaaDoorBlk
namespace Go.Proofs.YtcmdjnllpcnpjaaDoor
set_option linter.unusedVariables false
set_option linter.unusedSimpArgs false
open Go.RowKit
/-- w' is w but for the blocks in T and new ones. -/
structure Keep (T : Nat → Prop) (w w' : World) : Prop where
  os : w'.os = w.os
  tape : w'.tape = w.tape
  output : w'.output = w.output
  size : w.heap.size ≤ w'.heap.size
  block : ∀ k, k < w.heap.size → ¬ T k → w'.heap[k]? = w.heap[k]?
theorem Keep.refl (T : Nat → Prop) (w : World) : Keep T w w := ⟨rfl, rfl, rfl, Nat.le_refl _, fun _ _ _ => rfl⟩
theorem Keep.trans {T U : Nat → Prop} {w w1 w2 : World} (h : Keep T w w1) (k : Keep U w1 w2) (hu : ∀ n, n < w.heap.size → U n → T n) : Keep T w w2 :=
  ⟨k.os.trans h.os, k.tape.trans h.tape, k.output.trans h.output, Nat.le_trans h.size k.size, fun n hn ht => (k.block n (Nat.lt_of_lt_of_le hn h.size) fun hh => ht (hu n hn hh)).trans (h.block n hn ht)⟩
theorem Keep.of_grown {T : Nat → Prop} {w w' : World} {row : Option Nat} (h : w.grownBy w' row) (hr : ∀ k, row = some k → T k) : Keep T w w' :=
  ⟨h.os, h.tape, h.output, h.size, fun k hk ht => h.block k hk fun e => ht (hr k e.symm)⟩
theorem Keep.of_below (T : Nat → Prop) {w w' : World} (h : Below w.heap.size w w') : Keep T w w' := ⟨h.os, h.tape, h.output, h.size, fun k hk _ => h.block k hk⟩
theorem Keep.below {T : Nat → Prop} {B : Nat} {w w' : World} (h : Keep T w w') (hB : B ≤ w.heap.size) (hT : ∀ k, T k → B ≤ k) : Below B w w' := ⟨h.os, h.tape, h.output, h.size, fun i hi => h.block i (by omega) fun ht => by have := hT i ht; omega⟩
theorem below_keep {T : Nat → Prop} {B : Nat} {w w1 w2 : World} (h : Below B w w1) (k : Keep T w1 w2) (hB : B ≤ w1.heap.size) (hT : ∀ k, T k → B ≤ k) : Below B w w2 := h.trans (k.below hB hT)
theorem SlI.same {w w' : World} {k : IntKind} {A : Option Addr} {c : Nat} {xs : List Int} (h : SlI w k A c xs) (hb : ∀ x, A = some x → w'.heap[x.block]? = w.heap[x.block]?) : SlI w' k A c xs := by
  refine ⟨?_, h.le, h.cap⟩
  rcases h.rd with h1 | ⟨ad, h1, h2⟩
  · exact .inl h1
  · refine .inr ⟨ad, h1, fun j u hj => ?_⟩
    rw [World.cell?_of_block (w := w)]
    · exact h2 j u hj
    · rw [show (ad.add j).block = ad.block from by unfold Addr.add; split <;> rfl]; exact hb ad h1
theorem row_same {w w' : World} {base E size n : Nat} {v : Value} {xs : List Value} (h : w.ownsRow base E size v n xs) (hb : ∀ k, v.ownBlock = some k → w'.heap[k]? = w.heap[k]?) : w'.ownsRow base E size v n xs := by
  refine ⟨h.1, ?_⟩
  rcases h.2 with hn | ⟨g, cap, cur, rfl, hb2, hgg, rest⟩
  · exact .inl hn
  · exact .inr ⟨g, cap, cur, rfl, hb2, (hb g rfl).trans hgg, rest⟩
theorem below_box0 (w : World) (o : Obj) : Below w.heap.size w (w.alloc o) := below_alloc (Below.refl _ _) _
/-- The blocks that came between. -/
def seg (a b : Nat) : Nat → Prop := fun k => a ≤ k ∧ k < b
theorem Blk.keep {w w' : World} {T : Nat → Prop} {g : Nat} {ty : TypeId} {cs : List Value} (h : Blk w g ty cs) (hk : Keep T w w') (ht : ¬ T g) : Blk w' g ty cs := (hk.block g h.lt ht).trans h
theorem Keep.more {T U : Nat → Prop} {w w' : World} (h : Keep T w w') (hs : ∀ k, T k → U k) : Keep U w w' := ⟨h.os, h.tape, h.output, h.size, fun k hk hn => h.block k hk fun ht => hn (hs k ht)⟩
theorem Keep.cell (w : World) (g i : Nat) (v : Value) : Keep (fun k => k = g) w (w.setCell ⟨g, i, none⟩ v) := Keep.of_grown (grownBy_cell w g i v) fun k hk => by injection hk with hk; exact hk.symm
end Go.Proofs.YtcmdjnllpcnpjaaDoor
