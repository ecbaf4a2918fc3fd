/- A range over a function whose iterator keeps its state in one captured cell (block B), and whose body never leaves the loop. No program of its own. -/
import Derived.RangeFuncNested
import Derived.RangeFuncLeaves
import Derived.RangeFuncBox
import Derived.Test.YtipjmglieedimaaMem
namespace Go.Proofs.Ytipjmglieedimaa
set_option linter.unusedVariables false
set_option linter.unusedSimpArgs false
open Go.RowKit
variable {F : Fence} {n : Nat} {P : Program}
theorem range_box {g : Operand} {ps : Array Tmp} {assign body : Code} {Q : Exit → Act → World → Prop} {a : Act} {w : World}
    (outer : F.round = none) (room : 1 ≤ n) {gf : Nat} {lb : Array Value} (hg : a.eval g = .func (.func gf) #[] lb) (inF : F.fn gf) (enters : ∀ args w, (callFunc gf args).run P w = .ok (.enter gf args) w)
    (encs : Nat → Array Value) (sizes : ∀ k, (encs k).size = ps.size) (N B : Nat) (Kp : World → World → Prop)
    (kTrans : ∀ X Y Z : World, Kp X Y → Kp Y Z → Kp X Z) (kPut : ∀ (W : World) (l : Nat) (o o' : Obj), w.heap.size ≤ l → W.heap[l]? = some o → o.isCells = false → Kp W (W.putObj l o')) (kNew : ∀ (W : World) (o : Obj), w.heap.size ≤ W.heap.size → Kp W (W.alloc o))
    (notB : B < w.heap.size)
    (iter : ∀ (l : Nat) (J : Nat → World → Prop) (W : World), Kp w W → (∀ s X Y, J s X → X.grownBy Y (some B) → J s Y) →
      (∀ k W1, J k W1 → k < N → YieldAt F (n - 1 - 1) P l (encs k) W1 fun e W' => e = .returned (.bool true) ∧ J (k + 1) W' ∧ Kp W1 W') → J 0 W →
      CallsIn F (n - 1) P gf (#[.func (.yield l) #[] #[]] ++ lb) W fun e W' => (∃ v, e = .returned v) ∧ J N W')
    (I : Nat → World → Prop) (iBox : ∀ s X Y, I s X → X.grownBy Y (some B) → I s Y) (iPut : ∀ s (W : World) (l : Nat) (o o' : Obj), w.heap.size ≤ l → I s W → W.heap[l]? = some o → o.isCells = false → I s (W.putObj l o'))
    (start : I 0 w) (a₁ : Nat → Act)
    (assigns : ∀ (l k : Nat) (W : World) (K : Act → World → Prop), K (a₁ k) W →
      assign.wpIn (F.inRound l) (n - 1 - 1) P (Exit.then K (fun _ _ _ => False)) { tmps := (ps.zip (encs k)).foldl (fun t (p, v) => t.setIfInBounds p v) a.tmps, defers := [] } W)
    (rounds : ∀ (l k : Nat) (W : World), I k W → k < N → w.heap.size ≤ W.heap.size → body.wpIn (F.inRound l) (n - 1 - 1) P (fun e _ W' => e = .normal ∧ KeepsFrom w.heap.size W W' ∧ Kp W W' ∧ I (k + 1) W') (a₁ k) W)
    (done : ∀ (D : Nat) (W : World), w.heap.size ≤ D → I N W → W.heap[D]? = some (.deferred (some [])) → Q .normal { a with defers := { target := .collected D, args := #[] } :: a.defers } W) :
    (Code.rangeFunc g ps assign body).wpIn F n P Q a w := by
  apply wpIn_rangeFunc
  intro fn hfn
  rw [outer]
  -- the record of the loop, in its states
  let R : LoopState → Option Code → Loop := fun st pe => { state := st, pending := pe, fn, tmps := a.tmps, params := ps, assign, body, defers := w.heap.size }
  have iNew : ∀ s (W : World) (o : Obj), I s W → I s (W.alloc o) := fun s W o h => iBox s W _ h (World.grownBy_alloc W o _)
  have s1 : (w.alloc (.deferred (some []))).heap.size = w.heap.size + 1 := World.size_alloc ..
  have atRec : ((w.alloc (.deferred (some []))).alloc (.loop (R .ready none))).heap[w.heap.size + 1]? = some (.loop (R .ready none)) := by
    have := World.alloc_heap_new (w.alloc (.deferred (some []))) (.loop (R .ready none))
    rwa [s1] at this
  have atDef : ((w.alloc (.deferred (some []))).alloc (.loop (R .ready none))).heap[w.heap.size]? = some (.deferred (some [])) :=
    (Below.heap_alloc _ _ _ (by omega)).trans (World.alloc_heap_new w _)
  refine ⟨w.heap.size + 1, [{ target := .collected w.heap.size, args := #[] }], (w.alloc (.deferred (some []))).alloc (.loop (R .ready none)), { target := .fn (.func gf) lb, args := #[.func (.yield (w.heap.size + 1)) #[] #[]] },
    (w.alloc (.deferred (some []))).alloc (.loop (R .ready none)), gf, #[.func (.yield (w.heap.size + 1)) #[] #[]] ++ lb, (w.alloc (.deferred (some []))).alloc (.loop (R .ready none)), run_enterLoop_outer .., ?_, ?_, ?_, fun _ => room, ?_⟩
  · simp only [resolve, hg]
    simp [go_sem]
  · intro f' hf'
    simp [Target.leads] at hf'
    subst hf'; exact inF
  · simp [invoke, go_sem, enters]
  have call := iter (w.heap.size + 1) (fun k W => I k W ∧ W.heap[w.heap.size + 1]? = some (.loop (R .ready none)) ∧ W.heap[w.heap.size]? = some (.deferred (some [])))
    ((w.alloc (.deferred (some []))).alloc (.loop (R .ready none))) (kTrans _ _ _ (kNew _ _ (Nat.le_refl _)) (kNew _ _ (by omega)))
    (fun s X Y h hxy => ⟨iBox s X Y h.1 hxy, (hxy.block _ (Array.getElem?_eq_some_iff.1 h.2.1).1 (by simp; omega)).trans h.2.1, (hxy.block _ (Array.getElem?_eq_some_iff.1 h.2.2).1 (by simp; omega)).trans h.2.2⟩)
    ?_ ⟨iNew _ _ _ (iNew _ _ _ start), atRec, atDef⟩
  · refine call.mono ?_
    rintro e W2 ⟨⟨v, rfl⟩, hi, hl, hk⟩
    refine ⟨none, _, run_endLoop (P := P) hl (by simp [R]), done _ _ (Nat.le_refl _) (iPut _ _ _ _ _ (by omega) hi hl rfl) ?_⟩
    exact (World.putObj_heap_other (by omega)).trans hk
  · rintro k W ⟨hi, hl, hk⟩ hlt
    have hlW : w.heap.size + 1 < W.heap.size := (Array.getElem?_eq_some_iff.1 hl).1
    refine ⟨fn, _, assign, body, run_yield (P := P) hl (sizes k), roundIn_of_wpIn hfn (assigns _ k W _ ⟨_, run_beginRound hl rfl, ?_⟩)⟩
    have hl2 : (W.putObj (w.heap.size + 1) (.loop { R .ready none with state := .busy })).heap[w.heap.size + 1]? = some (.loop { R .ready none with state := .busy }) := World.putObj_heap_same hlW
    have hk2 : (W.putObj (w.heap.size + 1) (.loop { R .ready none with state := .busy })).heap[w.heap.size]? = some (.deferred (some [])) := (World.putObj_heap_other (by omega)).trans hk
    refine wpIn_mono (rounds _ k _ (iPut _ _ _ _ _ (by omega) hi hl rfl) hlt (by simp; omega)) ?_
    rintro e a3 W3 ⟨rfl, hk3, hkp, hi3⟩
    have hl3 := hk3.same _ _ (by omega) hl2 rfl
    have hd3 := hk3.same _ _ (Nat.le_refl _) hk2 rfl
    refine ⟨_, _, run_endRound (P := P) none hl3, rfl, ⟨iPut _ _ _ _ _ (by omega) hi3 hl3 rfl, World.putObj_heap_same (Array.getElem?_eq_some_iff.1 hl3).1, (World.putObj_heap_other (by omega)).trans hd3⟩, ?_⟩
    exact kTrans _ _ _ (kPut _ _ _ _ (by omega) hl rfl) (kTrans _ _ _ hkp (kPut _ _ _ _ (by omega) hl3 rfl))
end Go.Proofs.Ytipjmglieedimaa
