import Derived.Test.YtfedgpcbndbddaaOctetLaws5
import Derived.Test.YtfedgpcbndbddaaOctetRows
import Derived.Deep.SlicePairs
namespace Go.Proofs.Ytfedgpcbndbddaa
set_option linter.unusedVariables false
set_option linter.unusedSimpArgs false
open Go.RowKit Go.ChangeShapes Go.WideShapes
theorem open_slP {H : Type} {enc : TypeId × Value → H} {P : Program} {W : World} {base : Nat} {spare : Nat → Bool} {held : Bool} {t e : TypeId} {f0 f1 : Field} {a : Option Addr} {len cap : Nat} {d : DataW H} {ps : List MemPlace}
    (ht : P.underlying t = some (.slice e)) (he : P.underlying e = some (.struct #[f0, f1])) (ce : P.cellsOf e = 2) (o0 : f0.offset = 0) (o1 : f1.offset = 1) (c0 : P.cellsOf f0.type = 1) (c1 : P.cellsOf f1.type = 1)
    (u0 : P.underlying f0.type = some (.int .i64)) (u1 : P.underlying f1.type = some (.int .i64))
    (h : DataW.Trod enc P W base spare held t (.slice a len cap) d ps) : ∃ l : List (Int × Int), len = l.length ∧ SlP W a cap l := by
  obtain ⟨fuel, hf⟩ := h
  rcases Go.Deep.open_slice_pairs ht he ce o0 o1 c0 c1 hf with ⟨hcs, _⟩ | ⟨x, l, c, m, n, V0, V1, D0, D1, P0, P1, hcs, _, hl, hm, hmm, hx, hel⟩
  · simp [Value.cells] at hcs
    obtain ⟨rfl, rfl, rfl⟩ := hcs
    exact ⟨[], rfl, ⟨Nat.le_refl _, by decide, fun j hj => by simp at hj, by simp⟩⟩
  · simp [Value.cells] at hcs
    obtain ⟨rfl, rfl, rfl⟩ := hcs
    have hlm : len ≤ m := by rw [hmm]; split <;> omega
    have each : ∀ i, i < len → ∃ q : Int × Int, W.cell? (x.add (i * 2)) = some (.int .i64 q.1) ∧ W.cell? ⟨(x.add (i * 2)).block, (x.add (i * 2)).off + 1, none⟩ = some (.int .i64 q.2) ∧ q.2 ≤ 9223372036854775807 := by
      intro i hi
      obtain ⟨h0, h1, h2, h3⟩ := hel i (by omega)
      obtain ⟨n0, e0, _, _⟩ := DataW.trod_int u0 h2
      obtain ⟨n1, e1, _, w1⟩ := DataW.trod_int u1 h3
      injection e0 with e0
      injection e1 with e1
      refine ⟨(n0, n1), by rw [h0, e0], ?_, (bdI64 w1).2⟩
      have : x.add (i * 2 + 1) = ⟨(x.add (i * 2)).block, (x.add (i * 2)).off + 1, none⟩ := by
        unfold Addr.add
        by_cases hi0 : i = 0
        · subst hi0; simp
        · have h2 : i * 2 ≠ 0 := by omega
          simp [h2, Nat.add_assoc]
      rw [← this, h1, e1]
    obtain ⟨q, hq⟩ := Go.Deep.choose_lt each
    refine ⟨(List.range len).map q, by simp, ⟨by simpa using hl, hm, fun j hj => ⟨x, rfl, ?_⟩, fun y hy => ?_⟩⟩
    · have hj' : j < len := by simpa using hj
      have := hq j hj'
      simp [List.getD_eq_getElem?_getD, hj']
      exact ⟨this.1, this.2.1⟩
    · simp at hy
      obtain ⟨i, hi, rfl⟩ := hy
      exact (hq i hi).2.2
theorem OctetScript_row (A : Option Addr) (c : Nat) (b : List Int) (L : Option Addr) (cl : Nat) (l : List (Int × Int)) (w : World) (h : SlI w .u8 A c b) (hb : ∀ n ∈ b, (Lit.int .u8 n).wf = true) (_hl : b.length * 1 ≤ 140737488351232) (hs : SlP w L cl l) :
    Calls Try.prog 9 #[.slice A b.length c, .slice L l.length cl] w fun e w' => e = .returned (.bool true) ∧ Below w.heap.size w w' := OctetScript_calls A L c cl b l w h (bytes_of hb) hs
end Go.Proofs.Ytfedgpcbndbddaa
