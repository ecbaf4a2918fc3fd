import Derived.Test.YtcmdjnllpcnpjaaDoorMem
import Derived.OwnWalk
namespace Go.Proofs.YtcmdjnllpcnpjaaDoor
set_option linter.unusedVariables false
set_option linter.unusedSimpArgs false
open Go.RowKit
theorem made_nums (k : IntKind) (n : Nat) : (madeCells (Value.cells (.int k 0)) (n * 1)).toList = nums k (List.replicate n 0) := by
  apply List.ext_getElem
  · simp [madeCells, nums]
  · intro i h1 h2
    simp [madeCells, nums, Value.cells, Nat.mod_one]
/-- make([]T, n). -/
theorem wp_make {P : Program} {w : World} {ops : Array Oper} {rest : List Oper} {o : Oper} {a : Act} {Q : Exit → Act → World → Prop} (hg : o.guard = none) (l c : Operand) (t : TypeId) (hop : o.op = Op.makeSlice t l c)
    (e : TypeId) (k : IntKind) (B : Nat) (h1 : P.underlying t = some (.slice e)) (h2 : (P.info? e).map (fun i => (i.zero, i.size, i.bytes)) = some (some (.int k 0), 1, B))
    (kl kc : IntKind) (L : Int) (n : Nat) (hL : L = (n : Int)) (hl : a.eval l = .int kl L) (hc : a.eval c = .int kc L) (b2 : B * n ≤ 281474976710656) (b3 : n ≤ maxLen)
    (hK : ∀ w', OwnI w' w.heap.size e k (some ⟨w.heap.size, 0, none⟩) n (List.replicate n 0) → Below w.heap.size w w' → wpList P ops Q rest (a.put o.dst (.slice (some ⟨w.heap.size, 0, none⟩) n n)) w') :
    wpList P ops Q (o :: rest) a w := by
  cases hi : P.info? e with
  | none => simp [hi] at h2
  | some i =>
    simp [hi] at h2
    refine wpList_make_full w hg l c t hop w.heap.size e i (.int k 0) 1 h1 hi h2.1 h2.2.1 kl kc L L n hl hc hL hL (by rw [h2.2.2]; exact b2) b3 (Nat.le_refl _) fun w' hw hgr => ?_
    rw [made_nums] at hw
    refine hK w' ?_ ⟨hgr.os, hgr.tape, hgr.output, hgr.size, fun j hj => hgr.block j hj (by simp)⟩
    unfold OwnI
    simpa using hw
/-- make([]T, 0, n). -/
theorem wp_make0 {P : Program} {w : World} {ops : Array Oper} {rest : List Oper} {o : Oper} {a : Act} {Q : Exit → Act → World → Prop} (hg : o.guard = none) (l c : Operand) (t : TypeId) (hop : o.op = Op.makeSlice t l c)
    (e : TypeId) (k : IntKind) (B : Nat) (h1 : P.underlying t = some (.slice e)) (h2 : (P.info? e).map (fun i => (i.zero, i.size, i.bytes)) = some (some (.int k 0), 1, B))
    (kl kc : IntKind) (L : Int) (n : Nat) (hL : L = (n : Int)) (hl : a.eval l = .int kl 0) (hc : a.eval c = .int kc L) (b2 : B * n ≤ 281474976710656) (b3 : n ≤ maxLen)
    (hK : ∀ w', OwnI w' w.heap.size e k (some ⟨w.heap.size, 0, none⟩) n [] → Below w.heap.size w w' → wpList P ops Q rest (a.put o.dst (.slice (some ⟨w.heap.size, 0, none⟩) 0 n)) w') :
    wpList P ops Q (o :: rest) a w := by
  cases hi : P.info? e with
  | none => simp [hi] at h2
  | some i =>
    simp [hi] at h2
    refine wpList_make_own w hg l c t hop w.heap.size e i (.int k 0) 1 h1 hi h2.1 h2.2.1 kl kc L n hl hc hL (by rw [h2.2.2]; exact b2) b3 (Nat.le_refl _) fun w' hw hgr => ?_
    exact hK w' hw ⟨hgr.os, hgr.tape, hgr.output, hgr.size, fun j hj => hgr.block j hj (by simp)⟩
/-- make([]T, n) under a guard that is met. -/
theorem wp_make_on {P : Program} {w : World} {ops : Array Oper} {rest : List Oper} {o : Oper} {a : Act} {Q : Exit → Act → World → Prop} (hw : Region.wanted o (yielded ops a.tmps) = true) (l c : Operand) (t : TypeId) (hop : o.op = Op.makeSlice t l c)
    (e : TypeId) (k : IntKind) (B : Nat) (h1 : P.underlying t = some (.slice e)) (h2 : (P.info? e).map (fun i => (i.zero, i.size, i.bytes)) = some (some (.int k 0), 1, B))
    (kl kc : IntKind) (L : Int) (n : Nat) (hL : L = (n : Int)) (hl : a.eval l = .int kl L) (hc : a.eval c = .int kc L) (b2 : B * n ≤ 281474976710656) (b3 : n ≤ maxLen)
    (hK : ∀ w', OwnI w' w.heap.size e k (some ⟨w.heap.size, 0, none⟩) n (List.replicate n 0) → Below w.heap.size w w' → wpList P ops Q rest (a.put o.dst (.slice (some ⟨w.heap.size, 0, none⟩) n n)) w') :
    wpList P ops Q (o :: rest) a w := by
  cases hi : P.info? e with
  | none => simp [hi] at h2
  | some i =>
    simp [hi] at h2
    obtain ⟨w', hrun, r1, hgr⟩ := run_make_full (P := P) w w.heap.size t e i (.int k 0) 1 h1 hi h2.1 h2.2.1 kl kc n (by rw [h2.2.2]; exact b2) b3 (Nat.le_refl _)
    rw [made_nums] at r1
    subst hL
    unfold wpList
    rw [if_pos hw]
    refine .inl ?_
    unfold Oper.wp
    simp [execOp, hop, hl, hc, hrun, Result.andThen]
    refine hK w' ?_ ⟨hgr.os, hgr.tape, hgr.output, hgr.size, fun j hj => hgr.block j hj (by simp)⟩
    unfold OwnI
    simpa using r1
end Go.Proofs.YtcmdjnllpcnpjaaDoor
