/- A law's argument that is a struct of one slice of slices (of slices) of whole numbers, out of its reading. -/
import Derived.Test.YthpgaggceefamaaSized
import Derived.Test.YthpgaggceefamaaMemB
import Derived.Deep.Matrix
namespace Go.Proofs.Ythpgaggceefamaa
set_option linter.unusedVariables false
set_option linter.unusedSimpArgs false
open Go.RowKit Go.ChangeShapes Go.WideShapes
section
variable {H : Type} {enc : TypeId × Value → H} {P : Program} {W : World} {base : Nat} {held : Bool}
theorem open_slS_cells {t e q : TypeId} {k : IntKind} {fuel : Nat} {cs : List Value} {x : DataW H × List MemPlace}
    (hu : P.underlying t = some (.slice e)) (he : P.underlying e = some (.slice q)) (hq : P.underlying q = some (.int k)) (ce : P.cellsOf e = 1) (cq : P.cellsOf q = 1)
    (h : DataW.trod enc P W base (fun _ => true) held fuel t cs = some x) : ∃ (A : Option Addr) (c : Nat) (xss : List (List Int)), cs = [.slice A xss.length c] ∧ (SlS W k A c xss ∧ ∀ xs ∈ xss, ∀ n ∈ xs, (Lit.int k n).wf = true) := by
  rcases Deep.open_int_rows hu he hq ce cq h with ⟨hcs, _⟩ | ⟨a, len, cap, A, L, C, Z, hcs, _, hl, hm, _, hx⟩
  · exact ⟨none, 0, [], hcs, SlS.nil _ _, by simp⟩
  · have rowl : ∀ r, r < cap → ((Z r).take (L r)).length = L r := fun r hr => by
      obtain ⟨_, h2, _, h4, _⟩ := hx r hr
      rw [List.length_take]; omega
    have gd : ∀ j, j < len → ((List.range len).map fun r => (Z r).take (L r)).getD j [] = (Z j).take (L j) := fun j hj => by simp [List.getD_eq_getElem?_getD, hj]
    refine ⟨some a, cap, (List.range len).map fun r => (Z r).take (L r), by rw [hcs]; simp, ⟨⟨(List.range len).map fun r => .slice (A r) (L r) (C r), .inr ⟨a, rfl, fun j u hj => ?_⟩, by simp, fun j hj => ?_⟩, by simpa using hl, hm⟩, ?_⟩
    · have hjl : j < len := by have := (List.getElem?_eq_some_iff.1 hj).1; simpa using this
      rw [(hx j (by omega)).1, ← hj]
      simp [hjl]
    · have hjl : j < len := by simpa using hj
      obtain ⟨h1, h2, h3, h4, h5, h6, h7⟩ := hx j (by omega)
      rw [gd j hjl]
      refine ⟨A j, C j, by simp [hjl, rowl j (by omega)], ⟨?_, by rw [rowl j (by omega)]; exact h2, h3⟩, fun _ _ => trivial⟩
      cases hA : A j with
      | none =>
        have h0 := h6 hA
        left
        have : Z j = [] := List.eq_nil_of_length_eq_zero (by omega)
        simp [nums, this]
      | some ad =>
        right
        refine ⟨ad, rfl, fun i u hi => ?_⟩
        have hil : i < L j := by have := (List.getElem?_eq_some_iff.1 hi).1; rw [nums_length, rowl j (by omega)] at this; exact this
        rw [(h7 ad hA).2 i (by omega), ← hi]
        have hz : i < (Z j).length := by omega
        simp [nums, List.getElem?_take, hil, hz]
    · intro xs hxs n hn
      obtain ⟨r, hr, rfl⟩ := List.mem_map.1 hxs
      have hr := List.mem_range.1 hr
      exact (hx r (by omega)).2.2.2.2.1 n (List.mem_of_mem_take hn)
theorem open_slB_cells {t d e q : TypeId} {k : IntKind} {fuel : Nat} {cs : List Value} {x : DataW H × List MemPlace}
    (ht : P.underlying t = some (.slice d)) (hu : P.underlying d = some (.slice e)) (he : P.underlying e = some (.slice q)) (hq : P.underlying q = some (.int k)) (cd : P.cellsOf d = 1) (ce : P.cellsOf e = 1) (cq : P.cellsOf q = 1)
    (h : DataW.trod enc P W base (fun _ => true) held fuel t cs = some x) : ∃ (A : Option Addr) (c : Nat) (b : List (List (List Int))), cs = [.slice A b.length c] ∧ (SlB W k A c b ∧ ∀ l ∈ b, ∀ xs ∈ l, ∀ n ∈ xs, (Lit.int k n).wf = true) := by
  rcases Deep.open_slice1 ht cd h with ⟨hcs, _⟩ | ⟨a, len, cap, m, n, V, D, Pl, hcs, _, hl, hm, hmm, _, hx⟩
  · exact ⟨none, 0, [], hcs, SlB.nil _ _, by simp⟩
  · simp only [if_true] at hmm
    subst hmm
    have each : ∀ i, i < m → ∃ y : Option Addr × Nat × List (List Int), V i = .slice y.1 y.2.2.length y.2.1 ∧ (SlS W k y.1 y.2.1 y.2.2 ∧ ∀ xs ∈ y.2.2, ∀ n ∈ xs, (Lit.int k n).wf = true) := fun i hi => by
      obtain ⟨A, c, xss, h1, h2⟩ := open_slS_cells hu he hq ce cq (hx i hi).2
      exact ⟨(A, c, xss), by simpa using h1, h2⟩
    obtain ⟨y, hy⟩ := Deep.choose_lt each
    have gd : ∀ j, j < len → ((List.range len).map fun r => (y r).2.2).getD j [] = (y j).2.2 := fun j hj => by simp [List.getD_eq_getElem?_getD, hj]
    refine ⟨some a, m, (List.range len).map fun r => (y r).2.2, by rw [hcs]; simp, ⟨⟨(List.range len).map V, .inr ⟨a, rfl, fun j u hj => ?_⟩, by simp, fun j hj => ?_⟩, by simpa using hl, hm⟩, ?_⟩
    · have hjl : j < len := by have := (List.getElem?_eq_some_iff.1 hj).1; simpa using this
      rw [(hx j (by omega)).1, ← hj]
      simp [hjl]
    · have hjl : j < len := by simpa using hj
      rw [gd j hjl]
      exact ⟨(y j).1, (y j).2.1, by simp [hjl, (hy j (by omega)).1], (hy j (by omega)).2.1.slK⟩
    · intro l hl' xs hxs n hn
      obtain ⟨r, hr, rfl⟩ := List.mem_map.1 hl'
      have hr := List.mem_range.1 hr
      exact (hy r (by omega)).2.2 xs hxs n hn
theorem arr_one {cs : Array Value} (h : cs.size = 1) : ∃ x, cs = #[x] := by
  obtain ⟨l⟩ := cs
  match l, h with
  | [x], _ => exact ⟨x, rfl⟩
/-- A struct of one slice of slices. -/
theorem open_tab {r : Reach} {b0 : Nat} {t e q : TypeId} {f0 : Field} {k : IntKind} {v : Value} {d : DataW H} {ps : List MemPlace}
    (hs : P.underlying t = some (.struct #[f0])) (ht : P.cellsOf t = 1) (o0 : f0.offset = 0) (c0 : P.cellsOf f0.type = 1) (hu : P.underlying f0.type = some (.slice e)) (he : P.underlying e = some (.slice q)) (hq : P.underlying q = some (.int k)) (ce : P.cellsOf e = 1) (cq : P.cellsOf q = 1)
    (hv : Value.okWide P W r b0 t v) (h : DataW.Trod enc P W base (fun _ => true) held t v d ps) : ∃ (A : Option Addr) (c : Nat) (xss : List (List Int)), v = .agg #[.slice A xss.length c] ∧ (SlS W k A c xss ∧ ∀ xs ∈ xss, ∀ n ∈ xs, (Lit.int k n).wf = true) := by
  obtain ⟨cs, rfl, hsz⟩ := okWide_struct hs hv
  obtain ⟨fuel, hf⟩ := h
  obtain ⟨xs, m, _, _, _, hxl, hf⟩ := DataW.trod_struct hs hf
  have g0 := hf 0 f0 rfl
  rw [ht] at hsz
  obtain ⟨x, rfl⟩ := arr_one hsz
  cases hxs : xs[0]? with
  | none => exact absurd (List.getElem?_eq_none_iff.1 hxs) (by simp at hxl; omega)
  | some y =>
    rw [hxs] at g0
    simp [o0, c0, Value.cells] at g0
    obtain ⟨A, c, xss, h1, h2⟩ := open_slS_cells hu he hq ce cq g0
    obtain rfl : x = _ := by simpa using h1
    exact ⟨A, c, xss, rfl, h2⟩
/-- A struct of one slice of slices of slices. -/
theorem open_bookV {r : Reach} {b0 : Nat} {t d' e q : TypeId} {f0 : Field} {k : IntKind} {v : Value} {d : DataW H} {ps : List MemPlace}
    (hs : P.underlying t = some (.struct #[f0])) (ht : P.cellsOf t = 1) (o0 : f0.offset = 0) (c0 : P.cellsOf f0.type = 1) (hd : P.underlying f0.type = some (.slice d')) (hu : P.underlying d' = some (.slice e)) (he : P.underlying e = some (.slice q)) (hq : P.underlying q = some (.int k)) (cd : P.cellsOf d' = 1) (ce : P.cellsOf e = 1) (cq : P.cellsOf q = 1)
    (hv : Value.okWide P W r b0 t v) (h : DataW.Trod enc P W base (fun _ => true) held t v d ps) : ∃ (A : Option Addr) (c : Nat) (b : List (List (List Int))), v = .agg #[.slice A b.length c] ∧ (SlB W k A c b ∧ ∀ l ∈ b, ∀ xs ∈ l, ∀ n ∈ xs, (Lit.int k n).wf = true) := by
  obtain ⟨cs, rfl, hsz⟩ := okWide_struct hs hv
  obtain ⟨fuel, hf⟩ := h
  obtain ⟨xs, m, _, _, _, hxl, hf⟩ := DataW.trod_struct hs hf
  have g0 := hf 0 f0 rfl
  rw [ht] at hsz
  obtain ⟨x, rfl⟩ := arr_one hsz
  cases hxs : xs[0]? with
  | none => exact absurd (List.getElem?_eq_none_iff.1 hxs) (by simp at hxl; omega)
  | some y =>
    rw [hxs] at g0
    simp [o0, c0, Value.cells] at g0
    obtain ⟨A, c, b, h1, h2⟩ := open_slB_cells hd hu he hq cd ce cq g0
    obtain rfl : x = _ := by simpa using h1
    exact ⟨A, c, b, rfl, h2⟩
end
end Go.Proofs.Ythpgaggceefamaa
