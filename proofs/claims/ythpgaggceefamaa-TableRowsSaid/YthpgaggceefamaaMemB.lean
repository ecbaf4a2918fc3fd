/- Words for memory: slices of slices of slices of whole numbers. No program of its own. -/
import Derived.Test.YthpgaggceefamaaMemV
namespace Go.Proofs.Ythpgaggceefamaa
set_option linter.unusedVariables false
set_option linter.unusedSimpArgs false
open Go.RowKit
/-- A slice of slices that is read; where it and they may lie: ok. -/
def SlK (w : World) (k : IntKind) (ok : Nat → Prop) (A : Option Addr) (c : Nat) (xss : List (List Int)) : Prop :=
  ∃ vs, Rd w A vs ∧ RowsI w k ok vs xss ∧ (∀ x, A = some x → ok x.block) ∧ xss.length ≤ c ∧ c ≤ maxLen
theorem SlK.sl {w : World} {k : IntKind} {ok : Nat → Prop} {A : Option Addr} {c : Nat} {xss : List (List Int)} (h : SlK w k ok A c xss) : SlS w k A c xss := by
  obtain ⟨vs, h1, h2, h3, h4, h5⟩ := h
  exact ⟨⟨vs, h1, h2.weaken fun _ _ => trivial⟩, h4, h5⟩
theorem SlK.nil (w : World) (k : IntKind) (ok : Nat → Prop) : SlK w k ok none 0 [] := ⟨[], .inl rfl, RowsI.nil _ _ _, fun _ h => (by cases h), Nat.le_refl _, Nat.zero_le _⟩
theorem SlS.slK {w : World} {k : IntKind} {A : Option Addr} {c : Nat} {xss : List (List Int)} (h : SlS w k A c xss) : SlK w k (fun _ => True) A c xss := by
  obtain ⟨⟨vs, h1, h2⟩, h4, h5⟩ := h
  exact ⟨vs, h1, h2, fun _ _ => trivial, h4, h5⟩
theorem SlK.weaken {w : World} {k : IntKind} {ok ok' : Nat → Prop} {A : Option Addr} {c : Nat} {xss : List (List Int)} (h : SlK w k ok A c xss) (ho : ∀ b, ok b → ok' b) : SlK w k ok' A c xss := by
  obtain ⟨vs, h1, h2, h3, h4, h5⟩ := h
  exact ⟨vs, h1, h2.weaken ho, fun x hx => ho _ (h3 x hx), h4, h5⟩
theorem Rd.kept {w w' : World} {A : Option Addr} {cs : List Value} {row : Option Nat} (h : Rd w A cs) (hg : w.grownBy w' row) (hr : ∀ x, A = some x → some x.block ≠ row) : Rd w' A cs := by
  rcases h with h1 | ⟨ad, h1, h2⟩
  · exact .inl h1
  · refine .inr ⟨ad, h1, fun j u hj => ?_⟩
    have hc := h2 j u hj
    rw [hg.cell_far _ (World.block_lt_of_cell? w _ hc) (by have := hr ad h1; unfold Addr.add; split <;> simpa using this)]
    exact hc
theorem SlK.kept {w w' : World} {k : IntKind} {ok : Nat → Prop} {A : Option Addr} {c : Nat} {xss : List (List Int)} {row : Option Nat} (h : SlK w k ok A c xss) (hg : w.grownBy w' row) (hr : ∀ b, ok b → some b ≠ row) : SlK w' k ok A c xss := by
  obtain ⟨vs, h1, h2, h3, h4, h5⟩ := h
  exact ⟨vs, h1.kept hg fun x hx => hr _ (h3 x hx), h2.kept hg hr, h3, h4, h5⟩
theorem SlK.below {w w' : World} {k : IntKind} {ok : Nat → Prop} {A : Option Addr} {c : Nat} {xss : List (List Int)} (h : SlK w k ok A c xss) (hb : Below w.heap.size w w') : SlK w' k ok A c xss := by
  obtain ⟨vs, h1, h2, h3, h4, h5⟩ := h
  exact ⟨vs, h1.below hb, h2.below hb, h3, h4, h5⟩
theorem OwnS.slK {w : World} {base E : Nat} {k : IntKind} {A : Option Addr} {c : Nat} {xss : List (List Int)} (h : OwnS w base E k A c xss) : SlK w k (fun b => base ≤ b ∧ b < w.heap.size) A c xss := by
  obtain ⟨vs, h1, h2⟩ := h
  have hl := h1.le
  refine ⟨vs, h1.rd, h2.weaken fun b hb => ⟨hb.1, hb.2.1⟩, fun x hx => ?_, by rw [← h2.1]; exact hl.1, hl.2⟩
  subst hx
  exact h1.lt _ rfl
/-- Slices of slices, read. -/
def RowsS (w : World) (k : IntKind) (ok : Nat → Prop) (vs : List Value) (b : List (List (List Int))) : Prop :=
  vs.length = b.length ∧ ∀ j, j < b.length → ∃ A c, vs[j]? = some (.slice A (b.getD j []).length c) ∧ SlK w k ok A c (b.getD j [])
theorem RowsS.nil (w : World) (k : IntKind) (ok : Nat → Prop) : RowsS w k ok [] [] := ⟨rfl, fun j hj => absurd hj (by simp)⟩
theorem RowsS.weaken {w : World} {k : IntKind} {ok ok' : Nat → Prop} {vs : List Value} {b : List (List (List Int))} (h : RowsS w k ok vs b) (ho : ∀ b, ok b → ok' b) : RowsS w k ok' vs b :=
  ⟨h.1, fun j hj => by obtain ⟨A, c, h1, h2⟩ := h.2 j hj; exact ⟨A, c, h1, h2.weaken ho⟩⟩
theorem RowsS.kept {w w' : World} {k : IntKind} {ok : Nat → Prop} {vs : List Value} {b : List (List (List Int))} {row : Option Nat} (h : RowsS w k ok vs b) (hg : w.grownBy w' row) (hr : ∀ b, ok b → some b ≠ row) : RowsS w' k ok vs b :=
  ⟨h.1, fun j hj => by obtain ⟨A, c, h1, h2⟩ := h.2 j hj; exact ⟨A, c, h1, h2.kept hg hr⟩⟩
theorem RowsS.below {w w' : World} {k : IntKind} {ok : Nat → Prop} {vs : List Value} {b : List (List (List Int))} (h : RowsS w k ok vs b) (hb : Below w.heap.size w w') : RowsS w' k ok vs b :=
  ⟨h.1, fun j hj => by obtain ⟨A, c, h1, h2⟩ := h.2 j hj; exact ⟨A, c, h1, h2.below hb⟩⟩
theorem RowsS.snoc {w : World} {k : IntKind} {ok : Nat → Prop} {vs : List Value} {b : List (List (List Int))} (h : RowsS w k ok vs b) {A : Option Addr} {c : Nat} {xs : List (List Int)} (hs : SlK w k ok A c xs) :
    RowsS w k ok (vs ++ [.slice A xs.length c]) (b ++ [xs]) := by
  refine ⟨by simp [h.1], fun j hj => ?_⟩
  rw [List.length_append] at hj
  rcases Nat.lt_or_ge j b.length with h1 | h1
  · obtain ⟨B, d, e1, e2⟩ := h.2 j h1
    have e4 : (b ++ [xs]).getD j [] = b.getD j [] := by simp [List.getD_eq_getElem?_getD, List.getElem?_append_left h1]
    rw [e4, List.getElem?_append_left (by have := h.1; omega)]
    exact ⟨B, d, e1, e2⟩
  · obtain rfl : j = b.length := by simp at hj; omega
    have e4 : (b ++ [xs]).getD b.length [] = xs := by simp [List.getD_eq_getElem?_getD]
    rw [e4]
    refine ⟨A, c, ?_, hs⟩
    rw [← h.1]; simp
/-- A slice of slices of slices of whole numbers that is read. -/
structure SlB (w : World) (k : IntKind) (A : Option Addr) (c : Nat) (b : List (List (List Int))) : Prop where
  rows : ∃ vs, Rd w A vs ∧ RowsS w k (fun _ => True) vs b
  le : b.length ≤ c
  cap : c ≤ maxLen
theorem SlB.len {w : World} {k : IntKind} {A : Option Addr} {c : Nat} {b : List (List (List Int))} (h : SlB w k A c b) : b.length ≤ 9223372036854775807 := by
  have a := h.le; have b := h.cap; unfold maxLen at b; omega
theorem SlB.below {w w' : World} {k : IntKind} {A : Option Addr} {c : Nat} {b : List (List (List Int))} (h : SlB w k A c b) (hb : Below w.heap.size w w') : SlB w' k A c b := by
  obtain ⟨⟨vs, h1, h2⟩, h3, h4⟩ := h
  exact ⟨⟨vs, h1.below hb, h2.below hb⟩, h3, h4⟩
theorem SlB.nil (w : World) (k : IntKind) : SlB w k none 0 [] := ⟨⟨[], .inl rfl, RowsS.nil _ _ _⟩, Nat.le_refl _, Nat.zero_le _⟩
/-- An element. -/
theorem SlB.get {w : World} {k : IntKind} {A : Option Addr} {c : Nat} {b : List (List (List Int))} (h : SlB w k A c b) (j : Nat) (hj : j < b.length) :
    ∃ ad B d, A = some ad ∧ w.cell? (ad.add j) = some (.slice B (b.getD j []).length d) ∧ SlS w k B d (b.getD j []) := by
  obtain ⟨⟨vs, h1, h2⟩, _, _⟩ := h
  obtain ⟨B, d, e1, e2⟩ := h2.2 j hj
  rcases h1 with h1 | ⟨ad, h1, h3⟩
  · subst h1; simp at e1
  · exact ⟨ad, B, d, h1, h3 j _ e1, e2.sl⟩
/-- A slice of slices of slices in a row of the call's own. -/
def OwnB (w : World) (base E : Nat) (k : IntKind) (A : Option Addr) (c : Nat) (b : List (List (List Int))) : Prop :=
  ∃ vs, OwnV w base E A c vs ∧ RowsS w k (fun x => base ≤ x ∧ x < w.heap.size ∧ some x ≠ (Value.slice A vs.length c).ownBlock) vs b
theorem OwnB.nil (w : World) (base E : Nat) (k : IntKind) : OwnB w base E k none 0 [] := ⟨[], own_nil _ _ _ _, RowsS.nil _ _ _⟩
theorem OwnB.sl {w : World} {base E : Nat} {k : IntKind} {A : Option Addr} {c : Nat} {b : List (List (List Int))} (h : OwnB w base E k A c b) : SlB w k A c b := by
  obtain ⟨vs, h1, h2⟩ := h
  have := h1.le
  exact ⟨⟨vs, h1.rd, h2.weaken fun _ _ => trivial⟩, by rw [← h2.1]; exact this.1, this.2⟩
theorem OwnB.below {w w' : World} {base E : Nat} {k : IntKind} {A : Option Addr} {c : Nat} {b : List (List (List Int))} (h : OwnB w base E k A c b) (hb : Below w.heap.size w w') : OwnB w' base E k A c b := by
  obtain ⟨vs, h1, h2⟩ := h
  have := hb.size
  exact ⟨vs, own_below h1 hb, (h2.below hb).weaken fun b hh => ⟨hh.1, by omega, hh.2.2⟩⟩
/-- Behind an append of one slice of slices. -/
theorem OwnB.app {W w1 : World} {base E : Nat} {k : IntKind} {A B A1 : Option Addr} {c d c1 : Nat} {vs : List Value} {b : List (List (List Int))} {xs : List (List Int)} {H : Nat}
    (hr : RowsS W k (fun x => base ≤ x ∧ x < W.heap.size ∧ some x ≠ (Value.slice A vs.length c).ownBlock) vs b) (hs : SlK W k (fun x => base ≤ x ∧ x < W.heap.size ∧ some x ≠ (Value.slice A vs.length c).ownBlock) B d xs) (hH : W.heap.size ≤ H)
    (ho : OwnV w1 base E A1 c1 (vs ++ [.slice B xs.length d])) (hg : W.grownBy w1 (Value.slice A vs.length c).ownBlock)
    (hat : (Value.slice A1 (vs ++ [Value.slice B xs.length d]).length c1).ownBlock = (Value.slice A vs.length c).ownBlock ∨ (Value.slice A1 (vs ++ [Value.slice B xs.length d]).length c1).ownBlock = some H) : OwnB w1 base E k A1 c1 (b ++ [xs]) := by
  refine ⟨_, ho, ?_⟩
  have hz := hg.size
  refine ((hr.kept hg fun b hb => hb.2.2).snoc (hs.kept hg fun b hb => hb.2.2)).weaken ?_
  rintro b ⟨h1, h2, h3⟩
  refine ⟨h1, by omega, ?_⟩
  rcases hat with h | h
  · rw [h]; exact h3
  · rw [h]; simp; omega
/-- The same, behind a call that hands back the slice. -/
theorem ownB_app1 {W0 w1 w3 : World} {base E E' : Nat} {k : IntKind} {A1 A2 B1 : Option Addr} {c1 c2 d1 : Nat} {vs : List Value} {tk : List (List (List Int))} {p : List (List Int)}
    (rv1 : RowsS w1 k (fun x => base ≤ x ∧ x < W0.heap.size ∧ some x ≠ (Value.slice A1 vs.length c1).ownBlock) vs tk) (o2 : OwnS w1 W0.heap.size E' k A2 c2 p) (old : ∀ x, (Value.slice A1 vs.length c1).ownBlock = some x → x < W0.heap.size)
    (hbs : base ≤ W0.heap.size) (o3 : OwnV w3 base E B1 d1 (vs ++ [.slice A2 p.length c2])) {ob : Obj}
    (hg : (w1.alloc ob).grownBy w3 (Value.slice A1 vs.length c1).ownBlock)
    (hat : (Value.slice B1 (vs ++ [Value.slice A2 p.length c2]).length d1).ownBlock = (Value.slice A1 vs.length c1).ownBlock ∨ (Value.slice B1 (vs ++ [Value.slice A2 p.length c2]).length d1).ownBlock = some (w1.heap.size + 1))
    (hw : W0.heap.size ≤ w1.heap.size := by omega) : OwnB w3 base E k B1 d1 (tk ++ [p]) := by
  exact OwnB.app (W := w1.alloc ob) (H := w1.heap.size + 1)
    ((rv1.below (below_alloc (Below.refl _ _) _)).weaken fun j hj => ⟨hj.1, by simp; omega, hj.2.2⟩) ((o2.slK.below (below_alloc (Below.refl _ _) _)).weaken fun j hj => ⟨by omega, by simp; omega, fun hh => by have := old _ hh.symm; omega⟩) (by simp) o3 hg hat
end Go.Proofs.Ythpgaggceefamaa
