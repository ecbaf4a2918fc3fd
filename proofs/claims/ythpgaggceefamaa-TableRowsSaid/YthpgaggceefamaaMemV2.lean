/- Rows of one-cell values: an append of a slice that is read. No program of its own. -/
import Derived.Test.YthpgaggceefamaaMemV
namespace Go.Proofs.Ythpgaggceefamaa
set_option linter.unusedVariables false
set_option linter.unusedSimpArgs false
open Go.RowKit
section
variable {P : Program} {ops : Array Oper} {rest : List Oper} {o : Oper} {a : Act} {Q : Exit → Act → World → Prop}
theorem wpList_met {W : World} (hw : Region.wanted o (yielded ops a.tmps) = true) (h : ∀ K : Act → World → Prop, (∀ a w, wpList P ops Q rest a w → K a w) → o.wp P a W K Q) : wpList P ops Q (o :: rest) a W := by
  unfold wpList
  rw [if_pos hw]
  exact .inl (h _ fun _ _ h => h)
/-- append(v, ys...) of one-cell values: v owned, ys read (nil let in); a guard that is met. -/
theorem app_valsR {W : World} (base : Nat) (hgd : Region.wanted o (yielded ops a.tmps) = true) (s x : Operand) (t e : TypeId) (z : Value) (bytes : Nat)
    (ho : o.op = .call { callee := .builtin .append, args := #[s, x], argTypes := #[t, t] })
    (ht : P.underlying t = some (.slice e)) (hinfo : (P.info? e).map (fun i => (i.zero, i.size, i.bytes)) = some (some z, 1, bytes)) (hb0 : 0 < bytes) (hzc : z.cells.size = 1)
    (B : Option Addr) (cb n m : Nat) (xs ys : List Value) (A : Option Addr) (c : Nat) (hs : a.eval s = .slice B n cb) (hx : a.eval x = .slice A m c) (hn : xs.length = n) (hm : ys.length = m)
    (HO : OwnV W base e B cb xs) (HR : Rd W A ys) (h1 : ∀ u ∈ ys, u.oneCell' = true) (hbase : base ≤ W.heap.size) (hl : (xs.length + ys.length) * bytes ≤ 140737488355328)
    (h : ∀ B1 c1 w1, OwnV w1 base e B1 c1 (xs ++ ys) → W.grownBy w1 (Value.slice B xs.length cb).ownBlock →
      ((Value.slice B1 (xs ++ ys).length c1).ownBlock = (Value.slice B xs.length cb).ownBlock ∨ (Value.slice B1 (xs ++ ys).length c1).ownBlock = some W.heap.size) → wpList P ops Q rest (a.put o.dst (.slice B1 (xs ++ ys).length c1)) w1) :
    wpList P ops Q (o :: rest) a W := by
  subst hn; subst hm
  refine wpList_met hgd fun K hK => ?_
  by_cases he : ys = []
  · subst he
    obtain ⟨i0, hi, hzz⟩ := Option.map_eq_some_iff.1 hinfo
    simp only [Prod.mk.injEq] at hzz
    obtain ⟨hz0, hz1, hz2⟩ := hzz
    have empty : (Builtin.append_ #[t, t] o.type #[.slice B xs.length cb, .slice A 0 c]).run P W = .ok (.slice B xs.length cb) W := by
      rcases HO.2 with ⟨h1, h2⟩ | ⟨g, cap, cur, h1, _, _, hnc, _⟩
      · rw [h1]
        cases A <;> simp [Builtin.append_, run_underlying ht, sizeOf, typeInfo, hi, Builtin.lenOf, Builtin.firstCells, loadCells, loadCellsFrom]
      · rw [h1]
        cases A <;> simp [Builtin.append_, run_underlying ht, sizeOf, typeInfo, hi, Builtin.lenOf, Builtin.firstCells, hnc, storeCells, loadCells, loadCellsFrom]
    unfold Oper.wp execOp
    simp only [ho, resolve, invoke, builtin, Sem.run_bind, Sem.run_pure, Result.andThen_ok, List.map_toArray, List.map_cons, List.map_nil, hs, hx, List.length_nil, empty]
    have := h B cb W (by rw [List.append_nil]; exact HO) (World.grownBy.refl W _) (by rw [List.append_nil]; exact .inl rfl)
    rw [List.append_nil] at this
    exact hK _ _ this
  · rcases HR with hr | ⟨ad, rfl, hc⟩
    · exact absurd hr he
    · refine wp_app_vals base s x t e z bytes ho ht hinfo hb0 hzc B cb xs ys ad c hs hx HO (by cases ys; exact absurd rfl he; simp) hc h1 hbase hl ?_
      intro B1 c1 w1 h2 h3 h4
      exact hK _ _ (h B1 c1 w1 h2 h3 h4)
end
theorem RowsI.oneCell {w : World} {k : IntKind} {ok : Nat → Prop} {vs : List Value} {xss : List (List Int)} (h : RowsI w k ok vs xss) : ∀ u ∈ vs, u.oneCell' = true := fun u hu => by
  obtain ⟨j, hj, rfl⟩ := List.mem_iff_getElem.1 hu
  obtain ⟨A, c, h1, _⟩ := h.2 j (by rw [← h.1]; exact hj)
  rw [List.getElem?_eq_getElem hj] at h1
  injection h1 with h1
  rw [h1]; rfl
theorem RowsI.append {w : World} {k : IntKind} {ok : Nat → Prop} {vs us : List Value} {xss yss : List (List Int)} (h : RowsI w k ok vs xss) (h' : RowsI w k ok us yss) : RowsI w k ok (vs ++ us) (xss ++ yss) := by
  refine ⟨by simp [h.1, h'.1], fun j hj => ?_⟩
  rw [List.length_append] at hj
  rcases Nat.lt_or_ge j xss.length with h1 | h1
  · have e4 : (xss ++ yss).getD j [] = xss.getD j [] := by simp [List.getD_eq_getElem?_getD, List.getElem?_append_left h1]
    rw [e4, List.getElem?_append_left (by have := h.1; omega)]
    exact h.2 j h1
  · have e4 : (xss ++ yss).getD j [] = yss.getD (j - xss.length) [] := by simp [List.getD_eq_getElem?_getD, List.getElem?_append_right h1]
    rw [e4, List.getElem?_append_right (by have := h.1; omega), h.1]
    exact h'.2 _ (by omega)
/-- Behind 'append(own, ys...)': the slices of both are read. -/
theorem ownS_appR {W w1 : World} {base E : Nat} {k : IntKind} {A B1 : Option Addr} {c c1 : Nat} {vs us : List Value} {xss yss : List (List Int)} {okb : Nat → Prop}
    (ov : OwnV W base E A c vs) (rv : RowsI W k (fun b => base ≤ b ∧ b < W.heap.size ∧ some b ≠ (Value.slice A vs.length c).ownBlock) vs xss) (ru : RowsI W k okb us yss) (hok : ∀ b, okb b → b < base)
    (ho : OwnV w1 base E B1 c1 (vs ++ us)) (hg : W.grownBy w1 (Value.slice A vs.length c).ownBlock) : SlS w1 k B1 c1 (xss ++ yss) := by
  have r1 := (rv.kept hg fun b hb => hb.2.2).weaken (ok' := fun _ => True) fun _ _ => trivial
  have r2 := (ru.kept hg fun b hb hh => by have := own_base ov b hh.symm; have := hok b hb; omega).weaken (ok' := fun _ => True) fun _ _ => trivial
  have := ho.le
  have hl : (vs ++ us).length = (xss ++ yss).length := by rw [List.length_append, List.length_append, rv.1, ru.1]
  exact ⟨⟨_, ho.rd, r1.append r2⟩, by rw [← hl]; exact this.1, this.2⟩
end Go.Proofs.Ythpgaggceefamaa
