/- ListNames. -/
import Derived.Test.YtikjmhijkegdgaaListLives
namespace Go.Proofs.Ytikjmhijkegdgaa
set_option linter.unusedVariables false
set_option linter.unusedSimpArgs false
open Go.RowKit
set_option maxHeartbeats 2000000 in
set_option maxRecDepth 100000 in
theorem ListNames_calls (w : World) : Calls Try.prog 5 #[] w fun e w' => e = .returned (.bool true) ∧ Below w.heap.size w w' := by
  go_enter Try.func5, Try.ntmps5
  go_wp2_with fail
  refine (lives_calls _).mono ?_
  rintro e w0 ⟨rfl, b0⟩
  go_wp2_with fail
  refine (New_calls 1 _ (by decide) (by decide)).mono ?_
  rintro e w1 ⟨g, rfl, L, b1, hg⟩
  have z0 := b0.size
  have z1 := b1.size
  have bt := below_trans b0 b1
  clear b0 b1
  have o1 : ∀ k, seg w0.heap.size w1.heap.size k → w.heap.size ≤ k ∧ k < w1.heap.size := fun k hk => ⟨by have := hk.1; omega, hk.2⟩
  generalize seg w0.heap.size w1.heap.size = S1 at *
  go_wp2_with fail
  refine (New_bad 0 _ (by decide)).mono ?_
  rintro e _ ⟨rfl, rfl⟩
  go_wp2_with fail
  refine (New_bad 1025 _ (by decide)).mono ?_
  rintro e _ ⟨rfl, rfl⟩
  go_wp2_with fail
  have c1 := below_box0 w1 (.cells #[.int .u8 3] 5)
  refine (LPut_calls S1 g 1 [] ⟨7, [3], 2, false⟩ (some ⟨w1.heap.size, 0, none⟩) 1 _ (L.below c1) (by decide) (by decide) (by decide) rfl (lit_at [3] rfl (by decide)) (by decide)).mono ?_
  rintro e w2 ⟨rfl, L2, kp2⟩
  have bt2 := below_keep (below_trans bt c1) kp2 (by have := c1.size; omega) (fun k hk => (o1 k hk).1)
  have z2 : w1.heap.size ≤ w2.heap.size := by have := kp2.size; have := c1.size; omega
  have o2 : ∀ k, grows S1 (w1.alloc (.cells #[.int .u8 3] 5)) w2 k → w.heap.size ≤ k ∧ k < w2.heap.size := fun k hk => by
    rcases hk with hk | hk
    · have := o1 k hk; omega
    · have := c1.size; exact ⟨by omega, hk.2⟩
  generalize grows S1 (w1.alloc (.cells #[.int .u8 3] 5)) w2 = S2 at *
  clear L bt c1 kp2 o1
  go_wp2_with fail
  refine (LKill_calls S2 g 1 ([] ++ [⟨7, [3], 2, false⟩]) 7 0 _ L2 (by decide) (by decide)).mono ?_
  rintro e w3 ⟨rfl, L3, kp3⟩
  have bt3 := below_keep bt2 kp3 (by omega) (fun k hk => (o2 k hk).1)
  have z3 := kp3.size
  have e3 : killE ([] ++ [⟨7, [3], 2, false⟩]) 0 = [⟨7, [3], 2, true⟩] := by decide
  rw [e3] at L3
  clear L2 bt2 kp3 e3
  go_wp2_with fail
  refine (LClone_calls S2 g 1 [⟨7, [3], 2, true⟩] _ L3 (by decide)).mono ?_
  rintro e w4 ⟨g4, rfl, L4, b4, hg4⟩
  replace L3 := L3.below b4
  have z4 := b4.size
  have bt4 := below_trans bt3 b4
  have o4 : ∀ k, seg w3.heap.size w4.heap.size k → w.heap.size ≤ k ∧ ¬ S2 k := fun k hk => ⟨by have := hk.1; omega, fun hs => by have := (o2 k hs).2; have := hk.1; omega⟩
  generalize seg w3.heap.size w4.heap.size = S4 at *
  clear bt3 b4
  go_wp2_with fail
  refine (LCompact_calls S2 g 1 [⟨7, [3], 2, true⟩] _ L3 (by decide)).mono ?_
  rintro e w5 ⟨rfl, L5, kp5⟩
  replace L4 := L4.keep kp5 (fun k _ hk => (o4 k hk).2)
  have bt5 := below_keep bt4 kp5 (by omega) (fun k hk => (o2 k hk).1)
  have z5 := kp5.size
  have e5 : liveE [⟨7, [3], 2, true⟩] = [] := by decide
  rw [e5] at L5
  rw [e5]
  clear L3 bt4 kp5 e5
  go_wp2_with fail
  refine (Get_no S2 g 1 [] 7 _ L5 (by decide) rfl).mono ?_
  rintro e w6 ⟨A6, c6, rfl, s6, b6⟩
  replace L5 := L5.below b6
  replace L4 := L4.below b6
  have bt6 := below_trans bt5 b6
  clear bt5 b6
  unfold aggE
  dsimp only [Option.getD, noE]
  have b7 := below_box0 w6 (.cells #[.int .i64 0, .slice A6 0 c6, .int .i64 0, .bool false] 33)
  replace L5 := L5.below b7
  replace L4 := L4.below b7
  have bt7 := below_trans bt6 b7
  clear bt6 b7 s6
  go_wp2_with fail
  refine (Stored_calls S2 g 1 [] _ L5).mono ?_
  rintro e _ ⟨rfl, rfl⟩
  go_wp2_with fail
  refine (Stored_calls S4 g4 1 [⟨7, [3], 2, true⟩] _ L4).mono ?_
  rintro e _ ⟨rfl, rfl⟩
  go_wp2_with fail
  refine (LSame_calls S4 S2 g4 g 1 1 [⟨7, [3], 2, true⟩] [] _ L4 L5).mono ?_
  rintro e w8 ⟨rfl, b8⟩
  rw [decide_eq_false (show ¬ ((1 : Int) = 1 ∧ ([⟨7, [3], 2, true⟩] : List En) = []) by decide)]
  replace L5 := L5.below b8
  replace L4 := L4.below b8
  have bt8 := below_trans bt7 b8
  clear bt7 b8
  go_wp2_with fail
  refine (LSame_calls S4 S4 g4 g4 1 1 [⟨7, [3], 2, true⟩] [⟨7, [3], 2, true⟩] _ L4 L4).mono ?_
  rintro e w9 ⟨rfl, b9⟩
  rw [decide_eq_true (show ((1 : Int) = 1 ∧ ([⟨7, [3], 2, true⟩] : List En) = [⟨7, [3], 2, true⟩]) by decide)]
  replace L5 := L5.below b9
  have bt9 := below_trans bt8 b9
  clear bt8 b9 L4
  go_wp2_with fail
  refine (LPut_bad S2 g 1 [] ⟨7, [], 0, false⟩ none 0 _ L5 (by decide) (by decide)).mono ?_
  rintro e w10 ⟨rfl, b10⟩
  replace L5 := L5.below b10
  have bt10 := below_trans bt9 b10
  clear bt9 b10
  go_wp2_with fail
  have b11 := below_box0 w10 (.cells #[.int .u8 1] 5)
  replace L5 := L5.below b11
  have bt11 := below_trans bt10 b11
  refine (LPut_bad S2 g 1 [] ⟨0, [1], 0, false⟩ (some ⟨w10.heap.size, 0, none⟩) 1 _ L5 (by decide) (by decide)).mono ?_
  rintro e w12 ⟨rfl, b12⟩
  replace L5 := L5.below b12
  have bt12 := below_trans bt11 b12
  clear bt11 b11 b12 bt10
  go_wp2_with fail
  have b13 := below_box0 w12 (.cells #[.int .u8 1] 5)
  replace L5 := L5.below b13
  have bt13 := below_trans bt12 b13
  refine (LPut_bad S2 g 1 [] ⟨1, [1], 0, true⟩ (some ⟨w12.heap.size, 0, none⟩) 1 _ L5 (by decide) (by decide)).mono ?_
  rintro e w14 ⟨rfl, b14⟩
  replace L5 := L5.below b14
  have bt14 := below_trans bt13 b14
  clear bt13 b13 b14 bt12
  go_wp2_with fail
  have b15 := below_box0 w14 (.cells #[.int .u8 1] 5)
  replace L5 := L5.below b15
  have bt15 := below_trans bt14 b15
  refine (LPut_bad S2 g 1 [] ⟨1, [1], 8388609, false⟩ (some ⟨w14.heap.size, 0, none⟩) 1 _ L5 (by decide) (by decide)).mono ?_
  rintro e w16 ⟨rfl, b16⟩
  have bt16 := below_trans bt15 b16
  go_wp2_with fail
  go_ret
  exact ⟨rfl, bt16⟩
end Go.Proofs.Ytikjmhijkegdgaa
