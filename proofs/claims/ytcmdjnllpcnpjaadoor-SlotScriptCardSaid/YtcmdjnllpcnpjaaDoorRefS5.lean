/- SlotScript: both slots, apart; what is done with the reference's. -/
import Derived.Test.YtcmdjnllpcnpjaaDoorRefS4
import Derived.Test.YtcmdjnllpcnpjaaDoorSlotActs
import Derived.Test.YtcmdjnllpcnpjaaDoorSlotLow
namespace Go.Proofs.YtcmdjnllpcnpjaaDoor
set_option linter.unusedVariables false
set_option linter.unusedSimpArgs false
open Go.RowKit
/-- The program's slots (g), the reference's (g'), and a box (b), apart. -/
structure ScI (w0 w : World) (g g' dim room : Nat) (st : St) (tr : List Int) (st2 : St) (tr2 : List Int) (S Wr El : Nat → Prop) (b : Nat) (cs : List Value) : Prop where
  ms : Mine w0 w S g dim room st tr
  rs : RS w Wr El g' dim room st2 tr2
  lw : ∀ k, Wr k → w0.heap.size ≤ k ∧ k < w.heap.size
  le : ∀ k, El k → w0.heap.size ≤ k ∧ k < w.heap.size
  aw : ∀ k, S k → ¬ Wr k
  ae : ∀ k, S k → ¬ El k
  bk : Blk w b 41 cs
  bs : ¬ S b
  bw : ¬ Wr b
section
variable {w0 w w' : World} {g g' dim room : Nat} {st st' : St} {tr tr' : List Int} {st2 st2' : St} {tr2 tr2' : List Int} {S S' Wr Wr' El El' : Nat → Prop} {b : Nat} {cs : List Value}
theorem ScI.stepS (H : ScI w0 w g g' dim room st tr st2 tr2 S Wr El b cs) (M : Mine w0 w' S' g dim room st' tr') (K : Keep S w w') (hS : ∀ k, S' k → S k ∨ (w.heap.size ≤ k ∧ k < w'.heap.size)) : ScI w0 w' g g' dim room st' tr' st2 tr2 S' Wr El b cs := by
  have hz := K.size
  have hb := H.bk.lt
  exact ⟨M, H.rs.keep K (fun k hk hs => H.aw k hs hk) (fun k hk hs => H.ae k hs hk), fun k hk => by have := H.lw k hk; omega, fun k hk => by have := H.le k hk; omega,
    fun k hk hh => (by rcases hS k hk with q | q; exact H.aw k q hh; have := (H.lw k hh).2; omega), fun k hk hh => (by rcases hS k hk with q | q; exact H.ae k q hh; have := (H.le k hh).2; omega),
    H.bk.keep K H.bs, fun hh => (by rcases hS _ hh with q | q; exact H.bs q; omega), H.bw⟩
theorem ScI.below (H : ScI w0 w g g' dim room st tr st2 tr2 S Wr El b cs) (h : Below w.heap.size w w') : ScI w0 w' g g' dim room st tr st2 tr2 S Wr El b cs :=
  H.stepS (H.ms.below h) (Keep.of_below S h) fun k hk => .inl hk
theorem ScI.stepR (H : ScI w0 w g g' dim room st tr st2 tr2 S Wr El b cs) (R : RS w' Wr' El' g' dim room st2' tr2') (K : Keep Wr w w') (hW : ∀ k, Wr' k → Wr k ∨ (w.heap.size ≤ k ∧ k < w'.heap.size)) (hE : ∀ k, El' k → El k ∨ (w.heap.size ≤ k ∧ k < w'.heap.size)) : ScI w0 w' g g' dim room st tr st2' tr2' S Wr' El' b cs := by
  have hz := K.size
  have hb := H.bk.lt
  have h0 := H.ms.B.size
  exact ⟨H.ms.other K (fun k hk => (H.lw k hk).1) (fun k hk hh => H.aw k hk hh), R, fun k hk => (by rcases hW k hk with q | q; have := H.lw k q; omega; omega), fun k hk => (by rcases hE k hk with q | q; have := H.le k q; omega; omega),
    fun k hk hh => (by rcases hW k hh with q | q; exact H.aw k hk q; have := (H.ms.lo k hk).2; omega), fun k hk hh => (by rcases hE k hh with q | q; exact H.ae k hk q; have := (H.ms.lo k hk).2; omega),
    H.bk.keep K H.bw, H.bs, fun hh => (by rcases hW _ hh with q | q; exact H.bw q; omega)⟩
/-- Something else is written. -/
theorem ScI.other {U : Nat → Prop} (H : ScI w0 w g g' dim room st tr st2 tr2 S Wr El b cs) (K : Keep U w w') (hU : ∀ k, U k → w.heap.size ≤ k) : ScI w0 w' g g' dim room st tr st2 tr2 S Wr El b cs :=
  H.below ⟨K.os, K.tape, K.output, K.size, fun k hk => K.block k hk fun hh => by have := hU k hh; omega⟩
/-- The same with another box. -/
theorem ScI.box {b' : Nat} {cs' : List Value} (H : ScI w0 w g g' dim room st tr st2 tr2 S Wr El b cs) (h : Below w.heap.size w w') (hb : Blk w' b' 41 cs') (hn : w.heap.size ≤ b') : ScI w0 w' g g' dim room st tr st2 tr2 S Wr El b' cs' := by
  have H2 := H.below h
  exact ⟨H2.ms, H2.rs, H2.lw, H2.le, H2.aw, H2.ae, hb, fun hh => by have := (H.ms.lo _ hh).2; omega, fun hh => by have := (H.lw _ hh).2; omega⟩
/-- The reference's trace is emptied. -/
theorem RS.clear (h : RS w Wr El g dim room st tr) : RS (w.setCell ⟨g, 3, none⟩ (.slice none 0 0)) Wr El g dim room st [] ∧ Keep Wr w (w.setCell ⟨g, 3, none⟩ (.slice none 0 0)) ∧ (∃ v, w.cell? ⟨g, 3, none⟩ = some v) ∧ w.frozen? ⟨g, 3, none⟩ = false := by
  obtain ⟨hd, hv, vs, V, vc, T, tc, h⟩ := h
  have K : Keep Wr w (w.setCell ⟨g, 3, none⟩ (.slice none 0 0)) := (Keep.cell w g 3 _).more fun k hk => by subst hk; exact h.wg
  refine ⟨⟨hd, hv, vs, V, vc, none, 0, ?_⟩, K, ⟨_, h.cells.2.2.2⟩, h.blk.frozen 3⟩
  exact { blk := h.blk.set 3 (.slice none 0 0)
          ov := row_same h.ov fun k hk => heap_setCell_other w ⟨g, 3, none⟩ k _ (h.wv k hk).2
          ot := own_nil _ _ _ _
          el := h.el.keep K h.ap fun _ hk => hk
          wg := h.wg, wv := h.wv, wt := fun k hk => (by cases hk), ap := h.ap }
theorem RS.trace (h : RS w Wr El g dim room st tr) : ∃ T tc, w.cell? ⟨g, 3, none⟩ = some (.slice T tr.length tc) ∧ SlI w .i64 T tc tr := by
  obtain ⟨hd, hv, vs, V, vc, T, tc, h⟩ := h
  exact ⟨T, tc, h.cells.2.2.2, OwnI.sl h.ot⟩
end
end Go.Proofs.YtcmdjnllpcnpjaaDoor
