/- The reference's slots: New, Has, Count. -/
import Derived.Test.YtcmdjnllpcnpjaaDoorSlotNames
import Derived.WalkSpells
namespace Go.Proofs.YtcmdjnllpcnpjaaDoor
set_option linter.unusedVariables false
set_option linter.unusedSimpArgs false
open Go.RowKit
abbrev nilV : Value := .slice none 0 0
/-- The slots' vectors as the reference has them: nil where a slot is free. -/
def RowsO (w : World) (El : Nat → Prop) (vs : List Value) (st : St) : Prop :=
  vs.length = st.length ∧ ∀ j, j < st.length → (st.getD j none = none → vs[j]? = some nilV) ∧ ∀ v, st.getD j none = some v → ∃ x c, vs[j]? = some (.slice (some x) v.length c) ∧ SlI w .i16 (some x) c v ∧ El x.block ∧ x.block < w.heap.size
theorem RowsO.nil (w : World) (El : Nat → Prop) : RowsO w El [] [] := ⟨rfl, fun j hj => absurd hj (by simp)⟩
theorem RowsO.keep {w w' : World} {El El' U : Nat → Prop} {vs : List Value} {st : St} (h : RowsO w El vs st) (K : Keep U w w') (hd : ∀ k, El k → ¬ U k) (he : ∀ k, El k → El' k) : RowsO w' El' vs st :=
  ⟨h.1, fun j hj => ⟨(h.2 j hj).1, fun v hv => by
    obtain ⟨x, c, h1, h2, h3, h4⟩ := (h.2 j hj).2 v hv
    exact ⟨x, c, h1, h2.keep K (fun y hy => by injection hy with hy; subst hy; exact ⟨hd _ h3, h4⟩), he _ h3, by have := K.size; omega⟩⟩⟩
theorem RowsO.set {w : World} {El : Nat → Prop} {vs : List Value} {st : St} (h : RowsO w El vs st) (n : Nat) (x : Option (List Int)) (u : Value) (hn : n < st.length)
    (hu : (x = none → u = nilV) ∧ ∀ v, x = some v → ∃ ad c, u = .slice (some ad) v.length c ∧ SlI w .i16 (some ad) c v ∧ El ad.block ∧ ad.block < w.heap.size) : RowsO w El (vs.set n u) (st.set n x) := by
  refine ⟨by rw [List.length_set, List.length_set]; exact h.1, fun j hj => ?_⟩
  rw [List.length_set] at hj
  by_cases e : j = n
  · subst e
    have e1 : (vs.set j u)[j]? = some u := List.getElem?_set_self (by rw [h.1]; exact hj)
    have e2 : (st.set j x).getD j none = x := by rw [List.getD_eq_getElem?_getD, List.getElem?_set_self hj]; rfl
    rw [e1, e2]
    refine ⟨fun hx => by rw [hu.1 hx], fun v hv => ?_⟩
    obtain ⟨ad, c, h1, h2⟩ := hu.2 v hv
    exact ⟨ad, c, by rw [h1], h2⟩
  · have e1 : (vs.set n u)[j]? = vs[j]? := List.getElem?_set_ne (fun hh => e hh.symm)
    have e2 : (st.set n x).getD j none = st.getD j none := by rw [List.getD_eq_getElem?_getD, List.getElem?_set_ne (fun hh => e hh.symm), List.getD_eq_getElem?_getD]
    rw [e1, e2]
    exact h.2 j hj
theorem RowsO.snoc {w : World} {El : Nat → Prop} {vs : List Value} {st : St} (h : RowsO w El vs st) : RowsO w El (vs ++ [nilV]) (st ++ [none]) := by
  refine ⟨by simp [h.1], fun j hj => ?_⟩
  rw [List.length_append] at hj
  rcases Nat.lt_or_ge j st.length with h1 | h1
  · have e1 : (vs ++ [nilV])[j]? = vs[j]? := List.getElem?_append_left (by rw [h.1]; exact h1)
    have e2 : (st ++ [none]).getD j none = st.getD j none := by rw [List.getD_eq_getElem?_getD, List.getElem?_append_left h1, List.getD_eq_getElem?_getD]
    rw [e1, e2]; exact h.2 j h1
  · obtain rfl : j = st.length := by simp at hj; omega
    have e1 : (vs ++ [nilV])[st.length]? = some nilV := by rw [← h.1]; simp
    have e2 : (st ++ [none]).getD st.length none = none := by simp [List.getD_eq_getElem?_getD]
    rw [e1, e2]
    exact ⟨fun _ => rfl, fun v hv => by cases hv⟩
abbrev cellsR (dim room : Nat) (V : Option Addr) (vn vc : Nat) (T : Option Addr) (tn tc : Nat) : List Value := [.int .i64 dim, .int .i64 room, .slice V vn vc, .slice T tn tc]
/-- The reference's slots in memory: block g; the blocks that it writes are in Wr, the vectors' in El. -/
structure RSM (w : World) (Wr El : Nat → Prop) (g dim room : Nat) (st : St) (tr : List Int) (vs : List Value) (V : Option Addr) (vc : Nat) (T : Option Addr) (tc : Nat) : Prop where
  blk : Blk w g 55 (cellsR dim room V vs.length vc T tr.length tc)
  ov : OwnV w 0 32 V vc vs
  ot : OwnI w 0 3 .i64 T tc tr
  el : RowsO w El vs st
  wg : Wr g
  wv : ∀ k, (Value.slice V vs.length vc).ownBlock = some k → Wr k ∧ k ≠ g
  wt : ∀ k, (Value.slice T tr.length tc).ownBlock = some k → Wr k ∧ k ≠ g ∧ (Value.slice V vs.length vc).ownBlock ≠ some k
  ap : ∀ k, El k → ¬ Wr k
def RS (w : World) (Wr El : Nat → Prop) (g dim room : Nat) (st : St) (tr : List Int) : Prop :=
  ((1 ≤ dim ∧ dim ≤ 1024) ∧ 1 ≤ room ∧ room ≤ 16777216) ∧ (∀ n v, st.getD n none = some v → v.length = dim) ∧ ∃ vs V vc T tc, RSM w Wr El g dim room st tr vs V vc T tc
section
variable {w w' : World} {Wr Wr' El El' U : Nat → Prop} {g dim room : Nat} {st : St} {tr : List Int} {vs : List Value} {V : Option Addr} {vc : Nat} {T : Option Addr} {tc : Nat}
theorem RSM.keep (h : RSM w Wr El g dim room st tr vs V vc T tc) (K : Keep U w w') (h1 : ∀ k, Wr k → ¬ U k) (h2 : ∀ k, El k → ¬ U k) : RSM w' Wr El g dim room st tr vs V vc T tc :=
  { h with
    blk := (K.block g h.blk.lt (h1 g h.wg)).trans h.blk
    ov := row_same h.ov fun k hk => K.block k (h.ov.lt k hk).2 (h1 k (h.wv k hk).1)
    ot := row_same h.ot fun k hk => K.block k (h.ot.lt k hk).2 (h1 k (h.wt k hk).1)
    el := h.el.keep K h2 fun _ hk => hk }
theorem RS.keep (h : RS w Wr El g dim room st tr) (K : Keep U w w') (h1 : ∀ k, Wr k → ¬ U k) (h2 : ∀ k, El k → ¬ U k) : RS w' Wr El g dim room st tr := by
  obtain ⟨hd, hv, vs, V, vc, T, tc, h⟩ := h
  exact ⟨hd, hv, vs, V, vc, T, tc, h.keep K h1 h2⟩
theorem RS.below (h : RS w Wr El g dim room st tr) (b : Below w.heap.size w w') : RS w' Wr El g dim room st tr := h.keep (Keep.of_below (fun _ => False) b) (fun _ _ hh => hh) fun _ _ hh => hh
theorem RSM.cells (h : RSM w Wr El g dim room st tr vs V vc T tc) : w.cell? ⟨g, 0, none⟩ = some (.int .i64 dim) ∧ w.cell? ⟨g, 1, none⟩ = some (.int .i64 room) ∧ w.cell? ⟨g, 2, none⟩ = some (.slice V vs.length vc) ∧ w.cell? ⟨g, 3, none⟩ = some (.slice T tr.length tc) :=
  ⟨h.blk.cell 0, h.blk.cell 1, h.blk.cell 2, h.blk.cell 3⟩
/-- A slot's place in the row: nil or a vector. -/
theorem RSM.at (h : RSM w Wr El g dim room st tr vs V vc T tc) (j : Nat) (hj : j < st.length) : ∃ ad A n c, V = some ad ∧ w.cell? (ad.add j) = some (.slice A n c) ∧ A.isNone = !used st j ∧ (used st j = false → n = 0 ∧ c = 0) := by
  have hr := h.ov.rd
  have hv := h.el.2 j hj
  cases hg : st.getD j none with
  | none =>
    have e1 := hv.1 hg
    rcases hr with h1 | ⟨ad, h1, h2⟩
    · rw [h1] at e1; simp at e1
    · exact ⟨ad, none, 0, 0, h1, h2 j _ e1, by unfold used; rw [hg]; rfl, fun _ => ⟨rfl, rfl⟩⟩
  | some v =>
    obtain ⟨x, c, e1, _⟩ := hv.2 v hg
    rcases hr with h1 | ⟨ad, h1, h2⟩
    · rw [h1] at e1; simp at e1
    · exact ⟨ad, some x, v.length, c, h1, h2 j _ e1, by unfold used; rw [hg]; rfl, fun hu => by unfold used at hu; rw [hg] at hu; cases hu⟩
end
theorem RNew_calls (dim room : Nat) (w : World) (h1 : 1 ≤ dim) (h2 : dim ≤ 1024) (h3 : 1 ≤ room) (h4 : room ≤ 16777216) :
    Calls Tryd.prog 23 #[.int .i64 dim, .int .i64 room] w fun e w' => ∃ g, e = .returned (.tuple #[PtrS g, .int .i64 0]) ∧ RS w' (seg w.heap.size w'.heap.size) (fun _ => False) g dim room [] [] ∧ Below w.heap.size w w' := by
  go_enter Tryd.func23, Tryd.ntmps23
  go_wp2_with fail
  go_ret2
  refine ⟨w.heap.size, rfl, ⟨⟨⟨h1, h2⟩, h3, h4⟩, (fun n v h => by simp at h), [], none, 0, none, 0, ⟨?_, own_nil _ _ _ _, own_nil _ _ _ _, RowsO.nil _ _, ⟨by omega, by simp⟩, (fun k hk => by cases hk), (fun k hk => by cases hk), fun k hk => hk.elim⟩⟩, below_alloc (Below.refl _ _) _⟩
  exact Blk.new w 55 (cellsR dim room none 0 0 none 0 0)
theorem RNew_bad (dim room : Int) (w : World) (h : dim < 1 ∨ 1024 < dim ∨ room < 1 ∨ 16777216 < room) :
    Calls Tryd.prog 23 #[.int .i64 dim, .int .i64 room] w fun e w' => e = .returned (.tuple #[.pointer none, .int .i64 2]) ∧ w = w' := by
  by_cases h1 : dim < 1
  · go_enter Tryd.func23, Tryd.ntmps23
    go_wp2_with fail
    go_ret2
    exact ⟨rfl, rfl⟩
  · by_cases h2 : 1024 < dim
    · go_enter Tryd.func23, Tryd.ntmps23
      go_wp2_with fail
      go_ret2
      exact ⟨rfl, rfl⟩
    · by_cases h3 : room < 1
      · go_enter Tryd.func23, Tryd.ntmps23
        go_wp2_with fail
        go_ret2
        exact ⟨rfl, rfl⟩
      · have h4 : 16777216 < room := by omega
        go_enter Tryd.func23, Tryd.ntmps23
        go_wp2_with fail
        go_ret2
        exact ⟨rfl, rfl⟩
theorem RHas_calls (Wr El : Nat → Prop) (g dim room : Nat) (st : St) (tr : List Int) (n : Int) (w : World) (h : RS w Wr El g dim room st tr) (hn : n ≤ 9223372036854775807) (hl : st.length ≤ 1000) :
    Calls Tryd.prog 30 #[PtrS g, .int .i64 n] w fun e w' => e = .returned (.bool (hasI st n)) ∧ w = w' := by
  obtain ⟨hd, hv, vs, V, vc, T, tc, h⟩ := h
  obtain ⟨c0, c1, c2, c3⟩ := h.cells
  have hlen := h.el.1
  have hneq := fun (W : World) (x : Option Addr) (l c : Nat) => run_neq_slice_nil_any (P := Tryd.prog) W 32 31 x l c 0 0 Tryd.underlying32
  unfold PtrS hasI
  by_cases h0 : n < 0
  · rw [show decide (0 ≤ n) = false from decide_eq_false (by omega), Bool.false_and]
    clear hlen h
    go_enter Tryd.func30, Tryd.ntmps30
    go_wp2_with fail
    go_ret
    exact ⟨rfl, rfl⟩
  · obtain ⟨m, rfl⟩ := Int.eq_ofNat_of_zero_le (show 0 ≤ n by omega)
    rw [show decide (0 ≤ (m : Int)) = true from decide_eq_true (by omega), Bool.true_and, Int.toNat_natCast]
    have hh0 : ¬ (m : Int) < 0 := by omega
    by_cases h1 : m < st.length
    · obtain ⟨ad, A, k, c, rfl, hc, hA, _⟩ := h.at m h1
      have i1 : (m : Int) < (vs.length : Int) := by omega
      generalize used st m = u at *
      replace hlen := Lib.hid hlen
      have hvl : vs.length ≤ 1000 := by rw [hlen.out]; exact hl
      clear h
      go_enter Tryd.func30, Tryd.ntmps30
      go_wp2_with fail
      go_ret
      exact ⟨rfl, rfl⟩
    · have hu : used st m = false := used_ge (by omega)
      rw [hu]
      have i1 : ¬ (m : Int) < (vs.length : Int) := by omega
      have hvl : vs.length ≤ 1000 := by omega
      clear h hlen hu
      go_enter Tryd.func30, Tryd.ntmps30
      go_wp2_with fail
      go_ret
      exact ⟨rfl, rfl⟩
end Go.Proofs.YtcmdjnllpcnpjaaDoor
