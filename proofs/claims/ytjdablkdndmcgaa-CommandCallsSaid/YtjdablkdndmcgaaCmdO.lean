/- CmdO: a law's argument that is a command, out of its reading. -/
import Derived.Test.YtjdablkdndmcgaaSized
import Derived.Test.YtjdablkdndmcgaaCmdB
import Derived.Lib.SmallJoins
namespace Go.Proofs.Ytjdablkdndmcgaa
set_option linter.unusedVariables false
set_option linter.unusedSimpArgs false
open Go.RowKit Go.ChangeShapes Go.WideShapes
section
variable {H : Type} {enc : TypeId × Value → H} {P : Program} {W : World} {base : Nat} {held : Bool}
theorem open_slI_cells {t e : TypeId} {k : IntKind} {fuel : Nat} {cs : List Value} {x : DataW H × List MemPlace} (hu : P.underlying t = some (.slice e)) (he : P.underlying e = some (.int k)) (hc : P.cellsOf e = 1)
    (h : DataW.trod enc P W base (fun _ => true) held fuel t cs = some x) : ∃ (A : Option Addr) (c : Nat) (xs : List Int), cs = [.slice A xs.length c] ∧ SlI W k A c xs ∧ ∀ n ∈ xs, (Lit.int k n).wf = true := by
  rcases open_ints hu he hc h with ⟨hcs, _⟩ | ⟨a, len, c, zs, hcs, _, hl, hm, hz, hx, hcell, hwz⟩
  · exact ⟨none, 0, [], hcs, SlI.nil _ _, by simp⟩
  · simp only [if_true] at hz
    have hlen : (zs.take len).length = len := by rw [List.length_take]; omega
    refine ⟨some a, c, zs.take len, by rw [hlen]; exact hcs, ⟨.inr ⟨_, rfl, fun i u hu => ?_⟩, by omega, hm⟩, fun n hn => hwz n (List.mem_of_mem_take hn)⟩
    have hil : i < len := by
      have := (List.getElem?_eq_some_iff.1 hu).1
      simp [nums] at this; omega
    have hi : i < zs.length := by omega
    rw [hcell i hi, ← hu]
    simp [nums, List.getD_eq_getElem?_getD, List.getElem?_take, hil, hi]
/-- What is known of a command that was read. -/
def CmW (W : World) (A B : Option Addr) (a b : Nat) (x : Cm) : Prop := CmK W x A a B b ∧ CmB x ∧ (-9223372036854775808 ≤ x.op ∧ x.op ≤ 9223372036854775807) ∧ (-9223372036854775808 ≤ x.id ∧ x.id ≤ 9223372036854775807) ∧ (-9223372036854775808 ≤ x.k ∧ x.k ≤ 9223372036854775807) ∧ (-9223372036854775808 ≤ x.p ∧ x.p ≤ 9223372036854775807)
theorem open_cmd {r : Reach} {b0 : Nat} {t ti tl tv te td tu : TypeId} {s0 s1 s2 s3 s4 s5 : Field} {v : Value} {d : DataW H} {ps : List MemPlace} (hs : P.underlying t = some (.struct #[s0, s1, s2, s3, s4, s5])) (hC : P.cellsOf t = 6)
    (h0 : s0.type = ti ∧ s0.offset = 0) (h1 : s1.type = tl ∧ s1.offset = 1) (h2 : s2.type = tv ∧ s2.offset = 2) (h3 : s3.type = ti ∧ s3.offset = 3) (h4 : s4.type = ti ∧ s4.offset = 4) (h5 : s5.type = td ∧ s5.offset = 5)
    (ci : P.cellsOf ti = 1) (cl : P.cellsOf tl = 1) (cv : P.cellsOf tv = 1) (cd : P.cellsOf td = 1)
    (ui : P.underlying ti = some (.int .i64)) (ul : P.underlying tl = some (.int .i64)) (uv : P.underlying tv = some (.slice te)) (ud : P.underlying td = some (.slice tu)) (ue : P.underlying te = some (.int .i16)) (uu : P.underlying tu = some (.int .u64)) (ce : P.cellsOf te = 1) (cu : P.cellsOf tu = 1)
    (hv : Value.okWide P W r b0 t v) (h : DataW.Trod enc P W base (fun _ => true) held t v d ps) : ∃ (q : Option Addr × Option Addr) (c : Nat × Nat) (x : Cm), v = .agg (cmC x q.1 c.1 q.2 c.2).toArray ∧ CmW W q.1 q.2 c.1 c.2 x := by
  obtain ⟨cs, rfl, hsz⟩ := okWide_struct hs hv
  obtain ⟨fuel, h⟩ := h
  have hlen : cs.toList.length = 6 := by rw [← hC, ← hsz]; simp
  have hcs : (Value.agg cs).cells.toList = cs.toList := by simp [Value.cells]
  rw [hcs] at h
  obtain ⟨xs, m, _, _, _, hxl, hf⟩ := DataW.trod_struct hs h
  have hxl : xs.length = 6 := by simpa using hxl
  obtain ⟨l, hl⟩ : ∃ l, l = cs.toList := ⟨_, rfl⟩
  rw [← hl] at hlen hf
  match l, hlen with
  | [a0, a1, a2, a3, a4, a5], _ =>
  have g0 := hf 0 s0 rfl
  have g1 := hf 1 s1 rfl
  have g2 := hf 2 s2 rfl
  have g3 := hf 3 s3 rfl
  have g4 := hf 4 s4 rfl
  have g5 := hf 5 s5 rfl
  match xs, hxl with
  | [x0, x1, x2, x3, x4, x5], _ =>
  rw [h0.1, h0.2, ci] at g0
  rw [h1.1, h1.2, cl] at g1
  rw [h2.1, h2.2, cv] at g2
  rw [h3.1, h3.2, ci] at g3
  rw [h4.1, h4.2, ci] at g4
  rw [h5.1, h5.2, cd] at g5
  simp only [List.drop_zero, List.drop_succ_cons, List.take_succ_cons, List.take_zero, List.getElem?_cons_zero, List.getElem?_cons_succ] at g0 g1 g2 g3 g4 g5
  obtain ⟨n0, e0, _, w0⟩ := DataW.trod_int ui g0
  obtain ⟨n1, e1, _, w1⟩ := DataW.trod_int ul g1
  obtain ⟨A, c2, zs, e2, k2, w2⟩ := open_slI_cells uv ue ce g2
  obtain ⟨n3, e3, _, w3⟩ := DataW.trod_int ui g3
  obtain ⟨n4, e4, _, w4⟩ := DataW.trod_int ui g4
  obtain ⟨B, c5, ys, e5, k5, w5⟩ := open_slI_cells ud uu cu g5
  simp only [List.cons.injEq, and_true] at e0 e1 e2 e3 e4 e5
  subst e0 e1 e2 e3 e4 e5
  refine ⟨(A, B), (c2, c5), ⟨n0, n1, zs, n3, n4, ys⟩, ?_, ⟨k2, k5⟩, ⟨(bdI64 w1).2, fun n hn => bdI16 (w2 n hn), fun n hn => bdU64 (w5 n hn)⟩, bdI64 w0, bdI64 w1, bdI64 w3, bdI64 w4⟩
  rw [show cs = (cs.toList).toArray by simp, ← hl]
  rfl
end
end Go.Proofs.Ytjdablkdndmcgaa
