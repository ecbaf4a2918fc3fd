/- A law's argument that is an entry, out of its reading. -/
import Derived.Test.YtikjmhijkegdgaaSized
import Derived.Test.YtikjmhijkegdgaaMemE
import Derived.Lib.SmallJoins
namespace Go.Proofs.Ytikjmhijkegdgaa
set_option linter.unusedVariables false
set_option linter.unusedSimpArgs false
open Go.RowKit Go.ChangeShapes Go.WideShapes
section
variable {H : Type} {enc : TypeId × Value → H} {P : Program} {W : World} {base : Nat} {held : Bool}
theorem open_slI_cells {t e : TypeId} {k : IntKind} {fuel : Nat} {cs : List Value} {x : DataW H × List MemPlace} (hu : P.underlying t = some (.slice e)) (he : P.underlying e = some (.int k)) (hc : P.cellsOf e = 1)
    (h : DataW.trod enc P W base (fun _ => true) held fuel t cs = some x) : ∃ (A : Option Addr) (c : Nat) (xs : List Int), cs = [.slice A xs.length c] ∧ SlI W k A c xs ∧ ∀ n ∈ xs, (Lit.int k n).wf = true := by
  rcases open_ints hu he hc h with ⟨hcs, _⟩ | ⟨a, len, c, zs, hcs, _, hl, hm, hz, hx, hcell, hwz⟩
  · exact ⟨none, 0, [], hcs, SlI.nil _ _, by simp⟩
  · simp only [if_true] at hz
    have hlen : (zs.take len).length = len := by rw [List.length_take]; omega
    refine ⟨some a, c, zs.take len, by rw [hlen]; exact hcs, ⟨.inr ⟨_, rfl, fun i u hu => ?_⟩, by omega, hm⟩, fun n hn => hwz n (List.mem_of_mem_take hn)⟩
    have hil : i < len := by
      have := (List.getElem?_eq_some_iff.1 hu).1
      simp [nums] at this; omega
    have hi : i < zs.length := by omega
    rw [hcell i hi, ← hu]
    simp [nums, List.getD_eq_getElem?_getD, List.getElem?_take, hil, hi]
/-- What is known of an entry that was read. -/
def EntOk (W : World) (q : HE) : Prop := SlI W .u8 q.A q.c q.e.code ∧ (∀ n ∈ q.e.code, (Lit.int .u8 n).wf = true) ∧ (Lit.int .i64 q.e.id).wf = true ∧ (Lit.int .i64 q.e.rad).wf = true
theorem open_ent_cells {t ti tc te tr tb : TypeId} {s0 s1 s2 s3 : Field} {fuel : Nat} {cs : List Value} {x : DataW H × List MemPlace} (hs : P.underlying t = some (.struct #[s0, s1, s2, s3])) (hlen : cs.length = 4)
    (h0 : s0.type = ti ∧ s0.offset = 0) (h1 : s1.type = tc ∧ s1.offset = 1) (h2 : s2.type = tr ∧ s2.offset = 2) (h3 : s3.type = tb ∧ s3.offset = 3)
    (c0 : P.cellsOf ti = 1) (c1 : P.cellsOf tc = 1) (c2 : P.cellsOf tr = 1) (c3 : P.cellsOf tb = 1)
    (u0 : P.underlying ti = some (.int .i64)) (u1 : P.underlying tc = some (.slice te)) (u2 : P.underlying tr = some (.int .i64)) (u3 : P.underlying tb = some .bool) (ue : P.underlying te = some (.int .u8)) (ce : P.cellsOf te = 1)
    (h : DataW.trod enc P W base (fun _ => true) held fuel t cs = some x) : ∃ q : HE, cs = cells4 q ∧ EntOk W q := by
  obtain ⟨xs, m, _, _, _, hxl, hf⟩ := DataW.trod_struct hs h
  have hxl : xs.length = 4 := by simpa using hxl
  match cs, hlen with
  | [a, b, c, d], _ =>
  have g0 := hf 0 s0 rfl
  have g1 := hf 1 s1 rfl
  have g2 := hf 2 s2 rfl
  have g3 := hf 3 s3 rfl
  match xs, hxl with
  | [x0, x1, x2, x3], _ =>
  rw [h0.1, h0.2, c0] at g0
  rw [h1.1, h1.2, c1] at g1
  rw [h2.1, h2.2, c2] at g2
  rw [h3.1, h3.2, c3] at g3
  simp only [List.drop_zero, List.drop_succ_cons, List.take_succ_cons, List.take_zero, List.getElem?_cons_zero, List.getElem?_cons_succ] at g0 g1 g2 g3
  obtain ⟨n0, e0, _, w0⟩ := DataW.trod_int u0 g0
  obtain ⟨A, cp, zs, e1, s1', w1⟩ := open_slI_cells u1 ue ce g1
  obtain ⟨n2, e2, _, w2⟩ := DataW.trod_int u2 g2
  obtain ⟨n3, e3, _⟩ := DataW.trod_bool u3 g3
  simp only [List.cons.injEq, and_true] at e0 e1 e2 e3
  subst e0 e1 e2 e3
  exact ⟨⟨⟨n0, zs, n2, n3⟩, A, cp⟩, rfl, s1', w1, w0, w2⟩
theorem open_entry {r : Reach} {b0 : Nat} {t ti tc te tr tb : TypeId} {s0 s1 s2 s3 : Field} {v : Value} {d : DataW H} {ps : List MemPlace} (hs : P.underlying t = some (.struct #[s0, s1, s2, s3])) (hC : P.cellsOf t = 4)
    (h0 : s0.type = ti ∧ s0.offset = 0) (h1 : s1.type = tc ∧ s1.offset = 1) (h2 : s2.type = tr ∧ s2.offset = 2) (h3 : s3.type = tb ∧ s3.offset = 3)
    (c0 : P.cellsOf ti = 1) (c1 : P.cellsOf tc = 1) (c2 : P.cellsOf tr = 1) (c3 : P.cellsOf tb = 1)
    (u0 : P.underlying ti = some (.int .i64)) (u1 : P.underlying tc = some (.slice te)) (u2 : P.underlying tr = some (.int .i64)) (u3 : P.underlying tb = some .bool) (ue : P.underlying te = some (.int .u8)) (ce : P.cellsOf te = 1)
    (hv : Value.okWide P W r b0 t v) (h : DataW.Trod enc P W base (fun _ => true) held t v d ps) : ∃ (A : Option Addr) (c : Nat) (e : En), v = aggE e A c ∧ EntOk W ⟨e, A, c⟩ := by
  obtain ⟨cs, rfl, hsz⟩ := okWide_struct hs hv
  obtain ⟨fuel, hf⟩ := h
  obtain ⟨⟨e, A, c⟩, hq, ok⟩ := open_ent_cells hs (by rw [← hC, ← hsz]; simp [Value.cells]) h0 h1 h2 h3 c0 c1 c2 c3 u0 u1 u2 u3 ue ce hf
  refine ⟨A, c, e, ?_, ok⟩
  have hq : cs.toList = cells4 ⟨e, A, c⟩ := by simpa [Value.cells] using hq
  rw [show cs = (cells4 ⟨e, A, c⟩).toArray by rw [← hq]]
  rfl
end
end Go.Proofs.Ytikjmhijkegdgaa
