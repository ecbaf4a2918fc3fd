/- SlotKeeps. -/
import Derived.Test.YtcmdjnllpcnpjaaDoorSlotLow
import Derived.Test.YtcmdjnllpcnpjaaDoorSlotActs
import Derived.Test.YtcmdjnllpcnpjaaDoorMapS
import Derived.Test.YtcmdjnllpcnpjaaDoorMake
import Derived.WalkSpells
namespace Go.Proofs.YtcmdjnllpcnpjaaDoor
set_option linter.unusedVariables false
set_option linter.unusedSimpArgs false
open Go.RowKit
/-- Slots (st), and a map that holds the vectors (sm), apart; Z: blocks that may be written. -/
structure KeepI (w0 w : World) (g dim room : Nat) (st sm : St) (tr : List Int) (S : Nat → Prop) (bm : Nat) (f : Int → Option Value) (n : Nat) (Z : Nat → Prop) : Prop where
  ms : Mine w0 w S g dim room st tr
  mp : MapS w bm f (cntS sm) n
  mb : w0.heap.size ≤ bm ∧ ¬ S bm
  el : ∀ m v, sm.getD m none = some v → 1 ≤ v.length ∧ ∃ x c, f (m : Int) = some (.slice (some x) v.length c) ∧ SlI w .i16 (some x) c v ∧ ¬ S x.block ∧ x.block < w.heap.size ∧ x.block ≠ bm ∧ ¬ Z x.block
  no : ∀ id, hasI sm id = false → f id = none
  zz : ∀ k, Z k → k < w.heap.size ∧ w0.heap.size ≤ k ∧ ¬ S k ∧ k ≠ bm
section
variable {w0 w w' : World} {g dim room : Nat} {st st' sm : St} {tr tr' : List Int} {S S' : Nat → Prop} {bm : Nat} {f : Int → Option Value} {n : Nat} {Z : Nat → Prop}
theorem away_one {S : Nat → Prop} {x : Addr} (h1 : ¬ S x.block) (h2 : x.block < w.heap.size) : Away w S (some x) := fun y hy => by injection hy with hy; subst hy; exact ⟨h1, h2⟩
theorem KeepI.stepS (h : KeepI w0 w g dim room st sm tr S bm f n Z) (M : Mine w0 w' S' g dim room st' tr') (K : Keep S w w') (hS : ∀ k, S' k → S k ∨ (w.heap.size ≤ k ∧ k < w'.heap.size)) : KeepI w0 w' g dim room st' sm tr' S' bm f n Z := by
  have hl := h.mp.lt
  have hz := K.size
  refine ⟨M, h.mp.block (K.block bm hl h.mb.2), ⟨h.mb.1, fun hh => by rcases hS _ hh with h1 | h1; exact h.mb.2 h1; omega⟩, fun m v hm => ?_, h.no, fun k hk => ?_⟩
  · obtain ⟨h0, x, c, h1, h2, h3, h4, h5, h6⟩ := h.el m v hm
    exact ⟨h0, x, c, h1, h2.keep K (away_one h3 h4), fun hh => (by rcases hS _ hh with q | q; exact h3 q; omega), by omega, h5, h6⟩
  · obtain ⟨h1, h2, h3, h4⟩ := h.zz k hk
    exact ⟨by omega, h2, fun hh => (by rcases hS _ hh with q | q; exact h3 q; omega), h4⟩
theorem KeepI.below (h : KeepI w0 w g dim room st sm tr S bm f n Z) (b : Below w.heap.size w w') : KeepI w0 w' g dim room st sm tr S bm f n Z :=
  h.stepS (h.ms.below b) (Keep.of_below S b) fun k hk => .inl hk
/-- A new block that may be written. -/
theorem KeepI.fresh {gv : Nat} (h : KeepI w0 w g dim room st sm tr S bm f n Z) (b : Below w.heap.size w w') (h1 : w.heap.size ≤ gv) (h2 : gv < w'.heap.size) : KeepI w0 w' g dim room st sm tr S bm f n (fun k => k = gv) := by
  have h3 := h.below b
  have hl := h.mp.lt
  exact ⟨h3.ms, h3.mp, h3.mb, fun m v hm => by
    obtain ⟨q0, x, c, q1, q2, q3, q4, q5, q6⟩ := h3.el m v hm
    obtain ⟨_, y, d, r1, _, _, r4, _, _⟩ := h.el m v hm
    rw [q1] at r1
    injection r1 with r1; injection r1 with r1 _ _; injection r1 with r1; subst r1
    exact ⟨q0, x, c, q1, q2, q3, q4, q5, fun hh => by omega⟩, h3.no, fun k hk => by
    subst hk
    exact ⟨h2, by have := h.ms.B.size; omega, fun hh => by have := (h.ms.lo _ hh).2; omega, by omega⟩⟩
/-- The same behind a call that hands back a new block. -/
theorem KeepI.stepF {gv : Nat} (h : KeepI w0 w g dim room st sm tr S bm f n Z) (M : Mine w0 w' S' g dim room st' tr') (K : Keep S w w') (hS : ∀ k, S' k → S k ∨ (w.heap.size ≤ k ∧ k < w'.heap.size)) (h1 : w.heap.size ≤ gv) (h2 : gv < w'.heap.size) (h3 : ¬ S' gv) : KeepI w0 w' g dim room st' sm tr' S' bm f n (fun k => k = gv) := by
  have h4 := h.stepS M K hS
  have hl := h.mp.lt
  exact ⟨h4.ms, h4.mp, h4.mb, fun m v hm => by
    obtain ⟨q0, x, c, q1, q2, q3, q4, q5, q6⟩ := h4.el m v hm
    obtain ⟨_, y, d, r1, _, _, r4, _, _⟩ := h.el m v hm
    rw [q1] at r1
    injection r1 with r1; injection r1 with r1 _ _; injection r1 with r1; subst r1
    exact ⟨q0, x, c, q1, q2, q3, q4, q5, fun hh => by omega⟩, h4.no, fun k hk => by
    subst hk
    exact ⟨h2, by have := h.ms.B.size; omega, h3, by omega⟩⟩
theorem KeepI.write (h : KeepI w0 w g dim room st sm tr S bm f n Z) (K : Keep Z w w') : KeepI w0 w' g dim room st sm tr S bm f n Z := by
  have hz := K.size
  refine ⟨h.ms.other K (fun k hk => (h.zz k hk).2.1) (fun k hk hz => (h.zz k hz).2.2.1 hk), h.mp.block (K.block bm h.mp.lt fun hh => (h.zz _ hh).2.2.2 rfl), h.mb, fun m v hm => ?_, h.no, fun k hk => ?_⟩
  · obtain ⟨h0, x, c, h1, h2, h3, h4, h5, h6⟩ := h.el m v hm
    exact ⟨h0, x, c, h1, h2.keep K (away_one h6 h4), h3, by omega, h5, h6⟩
  · obtain ⟨h1, h2⟩ := h.zz k hk
    exact ⟨by omega, h2⟩
theorem KeepI.drop (h : KeepI w0 w g dim room st sm tr S bm f n Z) : KeepI w0 w g dim room st sm tr S bm f n (fun _ => False) :=
  ⟨h.ms, h.mp, h.mb, fun m v hm => by obtain ⟨h0, x, c, h1, h2, h3, h4, h5, _⟩ := h.el m v hm; exact ⟨h0, x, c, h1, h2, h3, h4, h5, id⟩, h.no, fun k hk => hk.elim⟩
theorem KeepI.map (h : KeepI w0 w g dim room st sm tr S bm f n Z) {sm' : St} {f' : Int → Option Value} {n' : Nat} (hg : w.grownBy w' (some bm)) (mp : MapS w' bm f' (cntS sm') n') (no : ∀ id, hasI sm' id = false → f' id = none)
    (el : ∀ m v, sm'.getD m none = some v → (sm.getD m none = some v ∧ f' m = f m) ∨ (1 ≤ v.length ∧ ∃ x c, f' (m : Int) = some (.slice (some x) v.length c) ∧ SlI w .i16 (some x) c v ∧ ¬ S x.block ∧ x.block < w.heap.size ∧ x.block ≠ bm ∧ ¬ Z x.block)) : KeepI w0 w' g dim room st sm' tr S bm f' n' Z := by
  have K : Keep (fun k => k = bm) w w' := Keep.of_grown hg fun k hk => by injection hk with hk; exact hk.symm
  have hz := K.size
  refine ⟨h.ms.other K (fun k hk => by subst hk; exact h.mb.1) (fun k hk hb => by subst hb; exact h.mb.2 hk), mp, h.mb, fun m v hm => ?_, no, fun k hk => ?_⟩
  · have fin : ∀ x c, f' (m : Int) = some (.slice (some x) v.length c) → SlI w .i16 (some x) c v → ¬ S x.block → x.block < w.heap.size → x.block ≠ bm → ¬ Z x.block → ∃ x c, f' (m : Int) = some (.slice (some x) v.length c) ∧ SlI w' .i16 (some x) c v ∧ ¬ S x.block ∧ x.block < w'.heap.size ∧ x.block ≠ bm ∧ ¬ Z x.block :=
      fun x c h1 h2 h3 h4 h5 h6 => ⟨x, c, h1, h2.keep K (away_one h5 h4), h3, by omega, h5, h6⟩
    rcases el m v hm with ⟨e1, e2⟩ | ⟨h0, x, c, h1, h2, h3, h4, h5, h6⟩
    · obtain ⟨h0, x, c, h1, h2, h3, h4, h5, h6⟩ := h.el m v e1
      exact ⟨h0, fin x c (e2.trans h1) h2 h3 h4 h5 h6⟩
    · exact ⟨h0, fin x c h1 h2 h3 h4 h5 h6⟩
  · obtain ⟨h1, h2⟩ := h.zz k hk
    exact ⟨by omega, h2⟩
/-- What the map answers. -/
theorem KeepI.yes (h : KeepI w0 w g dim room st sm tr S bm f n Z) {id : Int} (hu : hasI sm id = true) : ∃ x c, (f id).getD nilS = .slice (some x) (getV sm id).length c ∧ SlI w .i16 (some x) c (getV sm id) := by
  have hu2 := hu
  unfold hasI at hu2
  simp only [Bool.and_eq_true, decide_eq_true_eq] at hu2
  obtain ⟨m, rfl⟩ := Int.eq_ofNat_of_zero_le hu2.1
  obtain ⟨v, hv⟩ := used_some hu2.2
  rw [Int.toNat_natCast] at hv
  obtain ⟨h0, x, c, h1, h2, _⟩ := h.el m v hv
  have hg : getV sm (m : Int) = v := by unfold getV; rw [hu, if_pos rfl, Int.toNat_natCast, hv]; rfl
  exact ⟨x, c, by rw [h1, hg]; rfl, by rw [hg]; exact h2⟩
theorem KeepI.nope (h : KeepI w0 w g dim room st sm tr S bm f n Z) {id : Int} (hu : hasI sm id = false) : (f id).getD nilS = nilS ∧ getV sm id = [] := ⟨by rw [h.no id hu]; rfl, by unfold getV; rw [hu]; rfl⟩
end
theorem hasI_nat (st : St) (m : Nat) : hasI st (m : Int) = used st m := by unfold hasI; simp
theorem hasI_neg {st : St} {id : Int} (h : id < 0) : hasI st id = false := by unfold hasI; simp; omega
theorem hasI_put (st : St) (v : List Int) (id : Int) (h : hasI (putS st v) id = false) : hasI st id = false ∧ id ≠ (leastS st : Nat) := by
  rcases Int.lt_or_le id 0 with h1 | h1
  · exact ⟨hasI_neg h1, by omega⟩
  · obtain ⟨m, rfl⟩ := Int.eq_ofNat_of_zero_le h1
    rw [hasI_nat, putS_used] at h
    simp only [Bool.or_eq_false_iff, decide_eq_false_iff_not] at h
    exact ⟨by rw [hasI_nat]; exact h.2, by omega⟩
end Go.Proofs.YtcmdjnllpcnpjaaDoor
