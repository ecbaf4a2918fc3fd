/- A law's argument that is a slice of slices of whole numbers, out of its reading. -/
import Derived.Test.YtipjmglieedimaaSized
import Derived.Test.YtipjmglieedimaaMemV
import Derived.Deep.Matrix
namespace Go.Proofs.Ytipjmglieedimaa
set_option linter.unusedVariables false
set_option linter.unusedSimpArgs false
open Go.RowKit Go.ChangeShapes Go.WideShapes
theorem open_slS {H : Type} {enc : TypeId × Value → H} {P : Program} {W : World} {base : Nat} {held : Bool} {t e q : TypeId} {k : IntKind} {a : Option Addr} {len cap : Nat} {d : DataW H} {ps : List MemPlace}
    (hu : P.underlying t = some (.slice e)) (he : P.underlying e = some (.slice q)) (hq : P.underlying q = some (.int k)) (ce : P.cellsOf e = 1) (cq : P.cellsOf q = 1)
    (h : DataW.Trod enc P W base (fun _ => true) held t (.slice a len cap) d ps) : ∃ xss : List (List Int), len = xss.length ∧ (SlS W k a cap xss ∧ ∀ xs ∈ xss, ∀ n ∈ xs, (Lit.int k n).wf = true) := by
  obtain ⟨fuel, hf⟩ := h
  rcases Deep.open_int_rows hu he hq ce cq hf with ⟨hcs, _⟩ | ⟨x, l, c, A, L, C, Z, hcs, _, hl, hm, _, hx⟩
  · simp [Value.cells] at hcs
    obtain ⟨rfl, rfl, rfl⟩ := hcs
    exact ⟨[], rfl, SlS.nil _ _, by simp⟩
  · simp [Value.cells] at hcs
    obtain ⟨rfl, rfl, rfl⟩ := hcs
    have rowl : ∀ r, r < cap → ((Z r).take (L r)).length = L r := fun r hr => by
      obtain ⟨_, h2, _, h4, _⟩ := hx r hr
      rw [List.length_take]; omega
    have gd : ∀ j, j < len → ((List.range len).map fun r => (Z r).take (L r)).getD j [] = (Z j).take (L j) := fun j hj => by simp [List.getD_eq_getElem?_getD, hj]
    refine ⟨(List.range len).map fun r => (Z r).take (L r), by simp, ⟨⟨(List.range len).map fun r => .slice (A r) (L r) (C r), .inr ⟨x, rfl, fun j u hj => ?_⟩, by simp, fun j hj => ?_⟩, by simpa using hl, hm⟩, ?_⟩
    · have hjl : j < len := by have := (List.getElem?_eq_some_iff.1 hj).1; simpa using this
      rw [(hx j (by omega)).1, ← hj]
      simp [hjl]
    · have hjl : j < len := by simpa using hj
      obtain ⟨h1, h2, h3, h4, h5, h6, h7⟩ := hx j (by omega)
      rw [gd j hjl]
      refine ⟨A j, C j, by simp [hjl, rowl j (by omega)], ⟨?_, by rw [rowl j (by omega)]; exact h2, h3⟩, fun _ _ => trivial⟩
      cases hA : A j with
      | none =>
        have h0 := h6 hA
        left
        have : Z j = [] := List.eq_nil_of_length_eq_zero (by omega)
        simp [nums, this]
      | some ad =>
        right
        refine ⟨ad, rfl, fun i u hi => ?_⟩
        have hil : i < L j := by have := (List.getElem?_eq_some_iff.1 hi).1; rw [nums_length, rowl j (by omega)] at this; exact this
        rw [(h7 ad hA).2 i (by omega), ← hi]
        have hz : i < (Z j).length := by omega
        simp [nums, List.getElem?_take, hil, hz]
    · intro xs hxs n hn
      obtain ⟨r, hr, rfl⟩ := List.mem_map.1 hxs
      have hr := List.mem_range.1 hr
      exact (hx r (by omega)).2.2.2.2.1 n (List.mem_of_mem_take hn)
end Go.Proofs.Ytipjmglieedimaa
