/- Words for memory: rows of any one-cell values; slices of slices of whole numbers. No program of its own. -/
import Derived.Test.YtcmdjnllpcnpjaaDoorMem
namespace Go.Proofs.YtcmdjnllpcnpjaaDoor
set_option linter.unusedVariables false
set_option linter.unusedSimpArgs false
open Go.RowKit
/-- A slice of one-cell values in a row of the call's own. -/
abbrev OwnV (w : World) (base E : Nat) (A : Option Addr) (c : Nat) (vs : List Value) : Prop := w.ownsRow base E 1 (.slice A vs.length c) vs.length vs
theorem OwnV.le {w : World} {base E : Nat} {A : Option Addr} {c : Nat} {vs : List Value} (h : OwnV w base E A c vs) : vs.length ≤ c ∧ c ≤ maxLen := by
  rcases h.2 with ⟨h1, h2⟩ | ⟨g, cap, cur, h1, hb, hh, hn, hm, _⟩
  · injection h1 with h1 h3 h4
    subst h4
    exact ⟨by omega, Nat.zero_le _⟩
  · injection h1 with h1 h3 h4
    subst h4
    exact ⟨hn, hm⟩
theorem OwnV.rd {w : World} {base E : Nat} {A : Option Addr} {c : Nat} {vs : List Value} (h : OwnV w base E A c vs) : Rd w A vs := by
  rcases h.2 with ⟨h1, h2⟩ | ⟨g, cap, cur, h1, hb, hh, hn, hm, _⟩
  · injection h1 with h1 h3 h4
    exact .inl (List.eq_nil_of_length_eq_zero h3)
  · injection h1 with h1 h3 h4
    subst h1 h4
    exact .inr ⟨_, rfl, fun j u hj => h.cells rfl j u hj⟩
/-- Slices of whole numbers, read; where they may lie: ok. -/
def RowsI (w : World) (k : IntKind) (ok : Nat → Prop) (vs : List Value) (xss : List (List Int)) : Prop :=
  vs.length = xss.length ∧ ∀ j, j < xss.length → ∃ A c, vs[j]? = some (.slice A (xss.getD j []).length c) ∧ SlI w k A c (xss.getD j []) ∧ ∀ x, A = some x → ok x.block
theorem RowsI.nil (w : World) (k : IntKind) (ok : Nat → Prop) : RowsI w k ok [] [] := ⟨rfl, fun j hj => absurd hj (by simp)⟩
theorem RowsI.weaken {w : World} {k : IntKind} {ok ok' : Nat → Prop} {vs : List Value} {xss : List (List Int)} (h : RowsI w k ok vs xss) (ho : ∀ b, ok b → ok' b) : RowsI w k ok' vs xss :=
  ⟨h.1, fun j hj => by obtain ⟨A, c, h1, h2, h3⟩ := h.2 j hj; exact ⟨A, c, h1, h2, fun x hx => ho _ (h3 x hx)⟩⟩
theorem SlI.kept {w w' : World} {k : IntKind} {A : Option Addr} {c : Nat} {xs : List Int} {row : Option Nat} (h : SlI w k A c xs) (hg : w.grownBy w' row) (hr : ∀ x, A = some x → some x.block ≠ row) : SlI w' k A c xs := by
  refine ⟨?_, h.le, h.cap⟩
  rcases h.rd with h1 | ⟨ad, h1, h2⟩
  · exact .inl h1
  · refine .inr ⟨ad, h1, fun j u hj => ?_⟩
    have hc := h2 j u hj
    rw [hg.cell_far _ (World.block_lt_of_cell? w _ hc) (by have := hr ad h1; unfold Addr.add; split <;> simpa using this)]
    exact hc
theorem RowsI.kept {w w' : World} {k : IntKind} {ok : Nat → Prop} {vs : List Value} {xss : List (List Int)} {row : Option Nat} (h : RowsI w k ok vs xss) (hg : w.grownBy w' row) (hr : ∀ b, ok b → some b ≠ row) : RowsI w' k ok vs xss :=
  ⟨h.1, fun j hj => by obtain ⟨A, c, h1, h2, h3⟩ := h.2 j hj; exact ⟨A, c, h1, h2.kept hg fun x hx => hr _ (h3 x hx), h3⟩⟩
theorem RowsI.below {w w' : World} {k : IntKind} {ok : Nat → Prop} {vs : List Value} {xss : List (List Int)} (h : RowsI w k ok vs xss) (hb : Below w.heap.size w w') : RowsI w' k ok vs xss :=
  ⟨h.1, fun j hj => by obtain ⟨A, c, h1, h2, h3⟩ := h.2 j hj; exact ⟨A, c, h1, h2.below hb, h3⟩⟩
theorem RowsI.snoc {w : World} {k : IntKind} {ok : Nat → Prop} {vs : List Value} {xss : List (List Int)} (h : RowsI w k ok vs xss) {A : Option Addr} {c : Nat} {xs : List Int} (hs : SlI w k A c xs) (ho : ∀ x, A = some x → ok x.block) :
    RowsI w k ok (vs ++ [.slice A xs.length c]) (xss ++ [xs]) := by
  refine ⟨by simp [h.1], fun j hj => ?_⟩
  rw [List.length_append] at hj
  rcases Nat.lt_or_ge j xss.length with h1 | h1
  · obtain ⟨B, d, e1, e2, e3⟩ := h.2 j h1
    have e4 : (xss ++ [xs]).getD j [] = xss.getD j [] := by simp [List.getD_eq_getElem?_getD, List.getElem?_append_left h1]
    rw [e4, List.getElem?_append_left (by have := h.1; omega)]
    exact ⟨B, d, e1, e2, e3⟩
  · obtain rfl : j = xss.length := by simp at hj; omega
    have e4 : (xss ++ [xs]).getD xss.length [] = xs := by simp [List.getD_eq_getElem?_getD]
    rw [e4]
    refine ⟨A, c, ?_, hs, ho⟩
    rw [← h.1]; simp
/-- A slice of slices of whole numbers that is read. -/
structure SlS (w : World) (k : IntKind) (A : Option Addr) (c : Nat) (xss : List (List Int)) : Prop where
  rows : ∃ vs, Rd w A vs ∧ RowsI w k (fun _ => True) vs xss
  le : xss.length ≤ c
  cap : c ≤ maxLen
theorem SlS.len {w : World} {k : IntKind} {A : Option Addr} {c : Nat} {xss : List (List Int)} (h : SlS w k A c xss) : xss.length ≤ 9223372036854775807 := by
  have a := h.le; have b := h.cap; unfold maxLen at b; omega
theorem SlS.below {w w' : World} {k : IntKind} {A : Option Addr} {c : Nat} {xss : List (List Int)} (h : SlS w k A c xss) (hb : Below w.heap.size w w') : SlS w' k A c xss := by
  obtain ⟨⟨vs, h1, h2⟩, h3, h4⟩ := h
  exact ⟨⟨vs, h1.below hb, h2.below hb⟩, h3, h4⟩
theorem SlS.nil (w : World) (k : IntKind) : SlS w k none 0 [] := ⟨⟨[], .inl rfl, RowsI.nil _ _ _⟩, Nat.le_refl _, Nat.zero_le _⟩
/-- An element. -/
theorem SlS.get {w : World} {k : IntKind} {A : Option Addr} {c : Nat} {xss : List (List Int)} (h : SlS w k A c xss) (j : Nat) (hj : j < xss.length) :
    ∃ ad B d, A = some ad ∧ w.cell? (ad.add j) = some (.slice B (xss.getD j []).length d) ∧ SlI w k B d (xss.getD j []) := by
  obtain ⟨⟨vs, h1, h2⟩, _, _⟩ := h
  obtain ⟨B, d, e1, e2, _⟩ := h2.2 j hj
  rcases h1 with h1 | ⟨ad, h1, h3⟩
  · subst h1; simp at e1
  · exact ⟨ad, B, d, h1, h3 j _ e1, e2⟩
/-- A slice of slices in a row of the call's own; the slices lie from base on, and not in that row. -/
def OwnS (w : World) (base E : Nat) (k : IntKind) (A : Option Addr) (c : Nat) (xss : List (List Int)) : Prop :=
  ∃ vs, OwnV w base E A c vs ∧ RowsI w k (fun b => base ≤ b ∧ b < w.heap.size ∧ some b ≠ (Value.slice A vs.length c).ownBlock) vs xss
theorem OwnS.nil (w : World) (base E : Nat) (k : IntKind) : OwnS w base E k none 0 [] := ⟨[], own_nil _ _ _ _, RowsI.nil _ _ _⟩
theorem OwnS.sl {w : World} {base E : Nat} {k : IntKind} {A : Option Addr} {c : Nat} {xss : List (List Int)} (h : OwnS w base E k A c xss) : SlS w k A c xss := by
  obtain ⟨vs, h1, h2⟩ := h
  have := h1.le
  exact ⟨⟨vs, h1.rd, h2.weaken fun _ _ => trivial⟩, by rw [← h2.1]; exact this.1, this.2⟩
theorem OwnS.below {w w' : World} {base E : Nat} {k : IntKind} {A : Option Addr} {c : Nat} {xss : List (List Int)} (h : OwnS w base E k A c xss) (hb : Below w.heap.size w w') : OwnS w' base E k A c xss := by
  obtain ⟨vs, h1, h2⟩ := h
  have := hb.size
  exact ⟨vs, own_below h1 hb, (h2.below hb).weaken fun b hh => ⟨hh.1, by omega, hh.2.2⟩⟩
theorem OwnS.mono {w : World} {base base' E : Nat} {k : IntKind} {A : Option Addr} {c : Nat} {xss : List (List Int)} (h : OwnS w base E k A c xss) (hb : base' ≤ base) : OwnS w base' E k A c xss := by
  obtain ⟨vs, h1, h2⟩ := h
  exact ⟨vs, own_mono h1 hb, h2.weaken fun b hh => ⟨by omega, hh.2⟩⟩
theorem OwnS.kept {w w' : World} {base E : Nat} {k : IntKind} {A : Option Addr} {c : Nat} {xss : List (List Int)} {r : Nat} (h : OwnS w base E k A c xss) (hg : w.grownBy w' (some r)) (hr : r < base) : OwnS w' base E k A c xss := by
  obtain ⟨vs, h1, h2⟩ := h
  have := hg.size
  refine ⟨vs, h1.kept hg ?_, (h2.kept hg fun b hb => by simp; omega).weaken fun b hh => ⟨hh.1, by omega, hh.2.2⟩⟩
  cases hv : (Value.slice A vs.length c).ownBlock with
  | none => exact .inl rfl
  | some g => right; have := own_base h1 g hv; simp; omega
theorem OwnS.len {w : World} {base E : Nat} {k : IntKind} {A : Option Addr} {c : Nat} {xss : List (List Int)} (h : OwnS w base E k A c xss) : xss.length ≤ c := h.sl.le
/-- Behind an append of one slice. -/
theorem OwnS.app {W w1 : World} {base E : Nat} {k : IntKind} {A B A1 : Option Addr} {c d c1 : Nat} {vs : List Value} {xss : List (List Int)} {xs : List Int} {H : Nat}
    (hr : RowsI W k (fun b => base ≤ b ∧ b < W.heap.size ∧ some b ≠ (Value.slice A vs.length c).ownBlock) vs xss) (hs : SlI W k B d xs) (hB : ∀ x, B = some x → base ≤ x.block ∧ x.block < W.heap.size ∧ some x.block ≠ (Value.slice A vs.length c).ownBlock) (hH : W.heap.size ≤ H)
    (ho : OwnV w1 base E A1 c1 (vs ++ [.slice B xs.length d])) (hg : W.grownBy w1 (Value.slice A vs.length c).ownBlock)
    (hat : (Value.slice A1 (vs ++ [Value.slice B xs.length d]).length c1).ownBlock = (Value.slice A vs.length c).ownBlock ∨ (Value.slice A1 (vs ++ [Value.slice B xs.length d]).length c1).ownBlock = some H) : OwnS w1 base E k A1 c1 (xss ++ [xs]) := by
  refine ⟨_, ho, ?_⟩
  have hz := hg.size
  have hr1 := hr.kept hg fun b hb => hb.2.2
  have hs1 : SlI w1 k B d xs := hs.kept hg fun x hx => (hB x hx).2.2
  refine (hr1.snoc hs1 hB).weaken ?_
  rintro b ⟨h1, h2, h3⟩
  refine ⟨h1, by omega, ?_⟩
  rcases hat with h | h
  · rw [h]; exact h3
  · rw [h]; simp; omega
section
variable {P : Program} {ops : Array Oper} {rest : List Oper} {o : Oper} {a : Act} {Q : Exit → Act → World → Prop}
/-- append(v, y) of one-cell values: its run. -/
theorem run_app_vals {W : World} (base : Nat) (t ty e : TypeId) (z : Value) (bytes : Nat)
    (ht : P.underlying t = some (.slice e)) (hinfo : (P.info? e).map (fun i => (i.zero, i.size, i.bytes)) = some (some z, 1, bytes)) (hb0 : 0 < bytes) (hzc : z.cells.size = 1)
    (B : Option Addr) (cb : Nat) (xs ys : List Value) (ad : Addr) (c : Nat) (HO : OwnV W base e B cb xs) (hys : 0 < ys.length) (HR : ∀ j u, ys[j]? = some u → W.cell? (ad.add j) = some u) (h1 : ∀ u ∈ ys, u.oneCell' = true) (hbase : base ≤ W.heap.size) (hl : (xs.length + ys.length) * bytes ≤ 140737488355328) :
    ∃ B1 c1 w1, (Builtin.append_ #[t, t] ty #[.slice B xs.length cb, .slice (some ad) ys.length c]).run P W = .ok (.slice B1 (xs ++ ys).length c1) w1 ∧ OwnV w1 base e B1 c1 (xs ++ ys) ∧ W.grownBy w1 (Value.slice B xs.length cb).ownBlock ∧
      ((Value.slice B1 (xs ++ ys).length c1).ownBlock = (Value.slice B xs.length cb).ownBlock ∨ (Value.slice B1 (xs ++ ys).length c1).ownBlock = some W.heap.size) := by
  obtain ⟨i0, hi, hzz⟩ := Option.map_eq_some_iff.1 hinfo
  simp only [Prod.mk.injEq] at hzz
  obtain ⟨hz0, hz1, hz2⟩ := hzz
  have hlen : xs.length + ys.length ≤ 140737488355328 := Nat.le_trans (Nat.le_mul_of_pos_right _ hb0) hl
  obtain ⟨v1, w1, hr, h2, h3, _, h5⟩ := run_append_own_at (P := P) W base t ty e i0 z 1 bytes ht hi hz0 hz1 hz2 hzc (by omega) _ xs.length xs HO ad ys.length c ys (by simp) HR h1 (by simp only [maxLen]; omega) hl hbase
  obtain ⟨B1, c1, rfl⟩ := own_slice h2
  have e1 : (xs ++ ys).length = xs.length + ys.length := List.length_append
  exact ⟨B1, c1, w1, by rw [e1]; exact hr, by rw [← e1] at h2; exact h2, h3, by rw [e1]; exact h5⟩
/-- append(v, y) of one-cell values, as an operation. -/
theorem wp_app_vals {K : Act → World → Prop} {W : World} (base : Nat) (s x : Operand) (t e : TypeId) (z : Value) (bytes : Nat)
    (ho : o.op = .call { callee := .builtin .append, args := #[s, x], argTypes := #[t, t] })
    (ht : P.underlying t = some (.slice e)) (hinfo : (P.info? e).map (fun i => (i.zero, i.size, i.bytes)) = some (some z, 1, bytes)) (hb0 : 0 < bytes) (hzc : z.cells.size = 1)
    (B : Option Addr) (cb : Nat) (xs ys : List Value) (ad : Addr) (c : Nat) (hs : a.eval s = .slice B xs.length cb) (hx : a.eval x = .slice (some ad) ys.length c)
    (HO : OwnV W base e B cb xs) (hys : 0 < ys.length) (HR : ∀ j u, ys[j]? = some u → W.cell? (ad.add j) = some u) (h1 : ∀ u ∈ ys, u.oneCell' = true) (hbase : base ≤ W.heap.size) (hl : (xs.length + ys.length) * bytes ≤ 140737488355328)
    (h : ∀ B1 c1 w1, OwnV w1 base e B1 c1 (xs ++ ys) → W.grownBy w1 (Value.slice B xs.length cb).ownBlock →
      ((Value.slice B1 (xs ++ ys).length c1).ownBlock = (Value.slice B xs.length cb).ownBlock ∨ (Value.slice B1 (xs ++ ys).length c1).ownBlock = some W.heap.size) → K (a.put o.dst (.slice B1 (xs ++ ys).length c1)) w1) :
    o.wp P a W K Q := by
  obtain ⟨B1, c1, w1, hr, ho1, hg, hat⟩ := run_app_vals (P := P) base t o.type e z bytes ht hinfo hb0 hzc B cb xs ys ad c HO hys HR h1 hbase hl
  unfold Oper.wp execOp
  simp only [ho, resolve, invoke, builtin, Sem.run_bind, Sem.run_pure, Result.andThen_ok, List.map_toArray, List.map_cons, List.map_nil, hs, hx, hr]
  exact h B1 c1 w1 ho1 hg hat
/-- append(v, y): one element; the goal's world is 'W.alloc' of the element's box. Behind 'at_builtin'. -/
theorem app_val {W : World} (base : Nat) (hgd : o.guard = none) (s x : Operand) (t e : TypeId) (z : Value) (bytes : Nat)
    (ho : o.op = .call { callee := .builtin .append, args := #[s, x], argTypes := #[t, t] })
    (ht : P.underlying t = some (.slice e)) (hinfo : (P.info? e).map (fun i => (i.zero, i.size, i.bytes)) = some (some z, 1, bytes)) (hb0 : 0 < bytes) (hzc : z.cells.size = 1)
    (B : Option Addr) (cb : Nat) (xs : List Value) (y : Value) (hs : a.eval s = .slice B xs.length cb) (hx : a.eval x = .slice (some ⟨W.heap.size, 0, none⟩) 1 1)
    (HO : OwnV W base e B cb xs) (h1 : y.oneCell' = true) (hbase : base ≤ W.heap.size) (hl : (xs.length + 1) * bytes ≤ 140737488355328)
    (h : ∀ B1 c1 w1, OwnV w1 base e B1 c1 (xs ++ [y]) → (W.alloc (.cells #[y] e)).grownBy w1 (Value.slice B xs.length cb).ownBlock →
      ((Value.slice B1 (xs ++ [y]).length c1).ownBlock = (Value.slice B xs.length cb).ownBlock ∨ (Value.slice B1 (xs ++ [y]).length c1).ownBlock = some (W.heap.size + 1)) → wpList P ops Q rest (a.put o.dst (.slice B1 (xs ++ [y]).length c1)) w1) :
    wpList P ops Q (o :: rest) a (W.alloc (.cells #[y] e)) := by
  refine wpList_plain hgd fun K hK => wp_app_vals base s x t e z bytes ho ht hinfo hb0 hzc B cb xs [y] ⟨W.heap.size, 0, none⟩ 1 hs hx (HO.alloc _) (by simp) (World.news_of_block (cs := #[y]) (t := e) (fr := (0, 0)) (heap_alloc_new W _)) (by simpa using h1) (by simp; omega) (by simpa using hl) ?_
  intro B1 c1 w1 h2 h3 h4
  exact hK _ _ (h B1 c1 w1 h2 h3 (by simpa using h4))
end
theorem own_block {w : World} {base E : Nat} {k : IntKind} {A : Option Addr} {c : Nat} {xs : List Int} (h : OwnI w base E k A c xs) : ∀ x, A = some x → base ≤ x.block ∧ x.block < w.heap.size := fun x hx => by
  rcases h.2 with ⟨h1, _⟩ | ⟨g, cap, cur, h1, h2, _⟩
  · injection h1 with h1; rw [h1] at hx; cases hx
  · injection h1 with h1 _ _
    rw [h1] at hx
    have h3 := h.lt g (by rw [h1]; simp [Value.ownBlock])
    cases hx
    exact h3
/-- Behind 'out = append(out, own)': out's row lay before own's. -/
theorem ownS_app1 {W0 w1 w3 : World} {base E E2 : Nat} {k : IntKind} {A1 A2 B1 : Option Addr} {c1 c2 d1 : Nat} {vs : List Value} {tk : List (List Int)} {p : List Int}
    (rv1 : RowsI w1 k (fun b => base ≤ b ∧ b < W0.heap.size ∧ some b ≠ (Value.slice A1 vs.length c1).ownBlock) vs tk) (ov1 : OwnV w1 base E A1 c1 vs) (o2 : OwnI w1 W0.heap.size E2 k A2 c2 p)
    (old : ∀ j, (Value.slice A1 vs.length c1).ownBlock = some j → j < W0.heap.size) (hb : base ≤ W0.heap.size) (o3 : OwnV w3 base E B1 d1 (vs ++ [.slice A2 p.length c2]))
    (hg : (w1.alloc (.cells #[.slice A2 p.length c2] E)).grownBy w3 (Value.slice A1 vs.length c1).ownBlock)
    (hat : (Value.slice B1 (vs ++ [Value.slice A2 p.length c2]).length d1).ownBlock = (Value.slice A1 vs.length c1).ownBlock ∨ (Value.slice B1 (vs ++ [Value.slice A2 p.length c2]).length d1).ownBlock = some (w1.heap.size + 1))
    (hw : W0.heap.size ≤ w1.heap.size := by omega) : OwnS w3 base E k B1 d1 (tk ++ [p]) := by
  have hA2 := own_block o2
  exact OwnS.app (W := w1.alloc (.cells #[.slice A2 p.length c2] E)) (H := w1.heap.size + 1)
    ((rv1.below (below_alloc (Below.refl _ _) _)).weaken fun j hj => ⟨hj.1, by simp; omega, hj.2.2⟩) ((OwnI.sl o2).below (below_alloc (Below.refl _ _) _))
    (fun x hx => ⟨by have := hA2 x hx; omega, by have := hA2 x hx; simp; omega, fun hh => by have := hA2 x hx; have := old _ hh.symm; omega⟩) (by simp) o3 hg hat
end Go.Proofs.YtcmdjnllpcnpjaaDoor
