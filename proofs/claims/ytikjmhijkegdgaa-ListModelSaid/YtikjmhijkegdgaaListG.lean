/- A list in memory: Get. -/
import Derived.Test.YtikjmhijkegdgaaListR
namespace Go.Proofs.Ytikjmhijkegdgaa
set_option linter.unusedVariables false
set_option linter.unusedSimpArgs false
open Go.RowKit
def noE : En := ⟨0, [], 0, false⟩
/-- What Get hands back. -/
def RetG (oe : Option En) (w : World) (e : Ending) (w' : World) : Prop := ∃ A' c', e = .returned (.tuple #[aggE (oe.getD noE) A' c', .int .i64 (if oe.isSome then 0 else 6)]) ∧ SlI w' .u8 A' c' (oe.getD noE).code ∧ Below w.heap.size w w'
set_option maxHeartbeats 1000000 in
theorem Get_no (S : Nat → Prop) (g : Nat) (parts : Int) (es : List En) (id : Int) (w : World) (h : LIST w S g parts es) (hid : (Lit.int .i64 id).wf = true) (hp : place es id = none) :
    Calls Try.prog 25 #[PtrL g, .int .i64 id] w (RetG none w) := by
  obtain ⟨xs, A, c, bm, rfl, h⟩ := h
  obtain ⟨v, hl, hv⟩ := (h.2.2.2.1.below (below_box0 w (.cells #[.int .i64 0, .slice none 0 0, .int .i64 0, .bool false] 33))).look id hid
  rw [show (fPlace (ents xs) id).isSome = false from by simp [fPlace, hp]] at hl
  have c2 := cell_below (below_box0 w (.cells #[.int .i64 0, .slice none 0 0, .int .i64 0, .bool false] 33)) _ _ (h.1.cell 2)
  try simp only [List.getElem?_cons_zero, List.getElem?_cons_succ] at c2
  clear h hv
  have b0 := below_box0 w (.cells #[.int .i64 0, .slice none 0 0, .int .i64 0, .bool false] 33)
  have k0 := Blk.new w 33 [.int .i64 0, .slice none 0 0, .int .i64 0, .bool false]
  unfold PtrL
  go_enter Try.func25, Try.ntmps25
  go_wp2_with fail
  (try simp only [Exit.inBlock, Exit.then])
  refine ret_blk2 (cs := [.int .i64 0, .slice none 0 0, .int .i64 0, .bool false]) rfl rfl rfl k0 Try.underlying33 rfl (by kernel_rfl) ?_
  exact ⟨none, 0, rfl, SlI.nil _ _, b0⟩
set_option maxHeartbeats 1000000 in
theorem Get_yes (S : Nat → Prop) (g : Nat) (parts : Int) (es : List En) (id : Int) (j : Nat) (w : World) (h : LIST w S g parts es) (hid : (Lit.int .i64 id).wf = true) (hp : place es id = some j) :
    Calls Try.prog 25 #[PtrL g, .int .i64 id] w (RetG (some (es.getD j ⟨0, [], 0, false⟩)) w) := by
  obtain ⟨xs, A, c, bm, rfl, h⟩ := h
  obtain ⟨v, hl, hv⟩ := (h.2.2.2.1.below (below_box0 w (.cells #[.int .i64 0, .slice none 0 0, .int .i64 0, .bool false] 33))).look id hid
  rw [show (fPlace (ents xs) id).isSome = true from by simp [fPlace, hp]] at hl
  obtain rfl : v = (j : Int) := hv _ (by simp [fPlace, hp])
  have c2 := cell_below (below_box0 w (.cells #[.int .i64 0, .slice none 0 0, .int .i64 0, .bool false] 33)) _ _ (h.1.cell 2)
  have c1 := cell_below (below_box0 w (.cells #[.int .i64 0, .slice none 0 0, .int .i64 0, .bool false] 33)) _ _ (h.1.cell 1)
  try simp only [List.getElem?_cons_zero, List.getElem?_cons_succ] at c1 c2
  have hsl := h.sl
  have hcodes := h.codes
  clear h hv
  have hjl := (place_lt hp).1
  have b0 := below_box0 w (.cells #[.int .i64 0, .slice none 0 0, .int .i64 0, .bool false] 33)
  have k0 := Blk.new w 33 [.int .i64 0, .slice none 0 0, .int .i64 0, .bool false]
  clear hp
  rw [ents_length] at hjl
  obtain ⟨ad, rfl, hat⟩ := hsl.2.2.2 j hjl
  have hcode := hsl.2.2.1 _ (getD_mem' xs j hjl)
  have hcl := hcodes _ (getD_mem' xs j hjl)
  have HEQ := Lib.hid (ents_get xs j hjl)
  have i1 : (j : Int) < (xs.length : Int) := by omega
  rw [← HEQ.out]
  generalize xs.getD j default = q at *
  obtain ⟨⟨qid, qcode, qrad, qdead⟩, qA, qc⟩ := q
  have hat2 := hat.below b0
  obtain ⟨x0, x1, x2, x3⟩ := hat2
  dsimp only at x0 x1 x2 x3 hcode hcl
  clear hat hsl hcodes
  unfold PtrL
  go_enter Try.func25, Try.ntmps25
  go_wp2_with fail
  refine (own_calls ⟨qid, qcode, qrad, qdead⟩ qA qc _ (hcode.1.below b0) (by show qcode.length * 1 ≤ _; omega)).mono ?_
  rintro e w2 ⟨A2, c2', rfl, o2, b2⟩
  replace k0 := k0.below b2
  have a0 := k0.cell 0
  have a1 := k0.cell 1
  have a2 := k0.cell 2
  have a3 := k0.cell 3
  have f0 := k0.frozen 0
  have f1 := k0.frozen 1
  have f2 := k0.frozen 2
  have f3 := k0.frozen 3
  simp only [List.getElem?_cons_zero, List.getElem?_cons_succ] at a0 a1 a2 a3
  have bt := below_trans b0 b2
  go_wp2_with fail
  (try simp only [Exit.inBlock, Exit.then])
  have kk := (((k0.set 0 (.int .i64 qid)).set 1 (.slice A2 qcode.length c2')).set 2 (.int .i64 qrad)).set 3 (.bool qdead)
  refine ret_blk2 (cs := [.int .i64 qid, .slice A2 qcode.length c2', .int .i64 qrad, .bool qdead]) rfl rfl rfl kk Try.underlying33 rfl (by kernel_rfl) ?_
  have o3 : OwnI w2 (w.heap.size + 1) 5 .u8 A2 c2' qcode := by simpa using o2
  have o4 := own_far (i := 3) (x := .bool qdead) (own_far (i := 2) (x := .int .i64 qrad) (own_far (i := 1) (x := .slice A2 qcode.length c2') (own_far (i := 0) (x := .int .i64 qid) o3 (show w.heap.size < w.heap.size + 1 by omega)) (show w.heap.size < w.heap.size + 1 by omega)) (show w.heap.size < w.heap.size + 1 by omega)) (show w.heap.size < w.heap.size + 1 by omega)
  exact ⟨A2, c2', rfl, OwnI.sl o4, (((bt.setCell (p := ⟨w.heap.size, 0, none⟩) (Nat.le_refl _) _).setCell (p := ⟨w.heap.size, 1, none⟩) (Nat.le_refl _) _).setCell (p := ⟨w.heap.size, 2, none⟩) (Nat.le_refl _) _).setCell (p := ⟨w.heap.size, 3, none⟩) (Nat.le_refl _) _⟩
set_option maxHeartbeats 1000000 in
theorem Get_nil (id : Int) (w : World) : Calls Try.prog 25 #[.pointer none, .int .i64 id] w fun e w' => e = .returned (.tuple #[aggE noE none 0, .int .i64 1]) ∧ Below w.heap.size w w' := by
  have b0 := below_box0 w (.cells #[.int .i64 0, .slice none 0 0, .int .i64 0, .bool false] 33)
  have k0 := Blk.new w 33 [.int .i64 0, .slice none 0 0, .int .i64 0, .bool false]
  unfold noE
  go_enter Try.func25, Try.ntmps25
  go_wp2_with fail
  (try simp only [Exit.inBlock, Exit.then])
  refine ret_blk2 (cs := [.int .i64 0, .slice none 0 0, .int .i64 0, .bool false]) rfl rfl rfl k0 Try.underlying33 rfl (by kernel_rfl) ?_
  exact ⟨rfl, b0⟩
end Go.Proofs.Ytikjmhijkegdgaa
