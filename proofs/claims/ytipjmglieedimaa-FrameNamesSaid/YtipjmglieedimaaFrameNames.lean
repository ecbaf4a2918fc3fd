import Derived.Test.YtipjmglieedimaaFrameRef3
import Derived.Test.YtipjmglieedimaaFrame2
namespace Go.Proofs.Ytipjmglieedimaa
set_option linter.unusedVariables false
set_option linter.unusedSimpArgs false
open Go.RowKit
theorem Size_at (n v : Int) (w : World) (h : Hid (sizeR n = v)) : Calls Try.prog 21 #[.int .i64 n] w fun e w' => e = .returned (.int .i64 v) ∧ w = w' := h.out ▸ Size_calls n w
set_option maxHeartbeats 1000000 in
set_option maxRecDepth 100000 in
theorem FrameNames_calls (w : World) : Calls Try.prog 6 #[] w fun e w' => e = .returned (.bool true) ∧ Below w.heap.size w w' := by
  have O1 := Lib.hid (show oneR [0, 0, 0, 0, 0, 0, 0] = ([], 0, 5) by decide +kernel)
  have O2 := Lib.hid (show oneR [1, 0, 0, 2, 0, 0, 0, 0] = ([], 0, 3) by decide +kernel)
  have O3 := Lib.hid (show oneR [9, 0, 0, 0, 0, 0, 0, 0, 1] = ([], 0, 5) by decide +kernel)
  have O4 := Lib.hid (show oneR [0, 0, 0, 0, 0, 0, 0, 0] = ([], 0, 4) by decide +kernel)
  have O5 := Lib.hid (show allR [0, 0, 0, 0, 0, 0, 0, 0] = ([], 4) by decide +kernel)
  have O6 := Lib.hid (show scanR [] = [] by decide +kernel)
  have Z1 := Lib.hid (show sizeR 0 = 8 by decide +kernel)
  have Z2 := Lib.hid (show sizeR (-1) = 0 by decide +kernel)
  have Z3 := Lib.hid (show sizeR 33554433 = 0 by decide +kernel)
  have Z4 := Lib.hid (show sizeR 33554432 = 33554440 by decide +kernel)
  have hmk7 : ∀ w : World, (Instr.makeSlice 22 (.int .i64 7) (.int .i64 7)).run Try.prog w = .ok (.slice (some ⟨w.heap.size, 0, none⟩) 7 7) (w.alloc (.cells (nums .u8 [0, 0, 0, 0, 0, 0, 0]).toArray 5)) := fun _ => by kernel_rfl
  have hmk8 : ∀ w : World, (Instr.makeSlice 22 (.int .i64 8) (.int .i64 8)).run Try.prog w = .ok (.slice (some ⟨w.heap.size, 0, none⟩) 8 8) (w.alloc (.cells (nums .u8 [0, 0, 0, 0, 0, 0, 0, 0]).toArray 5)) := fun _ => by kernel_rfl
  have AC := fun A c w h => All_calls A c [0, 0, 0, 0, 0, 0, 0, 0] w h (by unfold Bytes; decide) (by decide)
  rw [O5.out] at AC
  dsimp only at AC
  have SC := fun w h => Scan_calls none 0 [] w h (by simp [Bytes]) (by decide)
  rw [O6.out] at SC
  simp only [used, List.length_nil] at SC
  go_enter Try.func6, Try.ntmps6
  go_wp2_with fail
  refine (One_at (some ⟨w.heap.size, 0, none⟩) 7 7 [0, 0, 0, 0, 0, 0, 0] _ (lit_at [0, 0, 0, 0, 0, 0, 0] rfl (by decide)) (by unfold Bytes; decide) (by decide) (Lib.hid rfl) _ _ _ O1).mono ?_
  rintro e w1 ⟨A1, c1, rfl, o1, b1⟩
  have bt1 := below_trans (Below.refl w.heap.size w) (below_trans (below_alloc (Below.refl _ _) _) b1)
  clear b1 o1
  go_wp2_with fail
  refine (One_at (some ⟨w1.heap.size, 0, none⟩) 8 8 [1, 0, 0, 2, 0, 0, 0, 0] _ (lit_at [1, 0, 0, 2, 0, 0, 0, 0] rfl (by decide)) (by unfold Bytes; decide) (by decide) (Lib.hid rfl) _ _ _ O2).mono ?_
  rintro e w2 ⟨A2, c2, rfl, o2, b2⟩
  have bt2 := below_trans (bt1) (below_trans (below_alloc (Below.refl _ _) _) b2)
  clear b2 o2 bt1
  go_wp2_with fail
  refine (One_at (some ⟨w2.heap.size, 0, none⟩) 9 9 [9, 0, 0, 0, 0, 0, 0, 0, 1] _ (lit_at [9, 0, 0, 0, 0, 0, 0, 0, 1] rfl (by decide)) (by unfold Bytes; decide) (by decide) (Lib.hid rfl) _ _ _ O3).mono ?_
  rintro e w3 ⟨A3, c3, rfl, o3, b3⟩
  have bt3 := below_trans (bt2) (below_trans (below_alloc (Below.refl _ _) _) b3)
  clear b3 o3 bt2
  go_wp2_with fail
  refine (One_at (some ⟨w3.heap.size, 0, none⟩) 8 8 [0, 0, 0, 0, 0, 0, 0, 0] _ (lit_at [0, 0, 0, 0, 0, 0, 0, 0] rfl (by decide)) (by unfold Bytes; decide) (by decide) (Lib.hid rfl) _ _ _ O4).mono ?_
  rintro e w4 ⟨A4, c4, rfl, o4, b4⟩
  have bt4 := below_trans (bt3) (below_trans (below_alloc (Below.refl _ _) _) b4)
  clear b4 o4 bt3
  go_wp2_with fail
  refine (AC (some ⟨w4.heap.size, 0, none⟩) 8 _ (lit_at [0, 0, 0, 0, 0, 0, 0, 0] rfl (by decide))).mono ?_
  rintro e w5 ⟨A5, c5, rfl, o5, b5⟩
  have bt5 := below_trans (bt4) (below_trans (below_alloc (Below.refl _ _) _) b5)
  clear b5 o5 bt4
  go_wp2_with fail
  refine (SC _ (SlI.nil _ _)).mono ?_
  rintro e w6 ⟨A6, c6, rfl, o6, b6⟩
  have bt6 := below_trans bt5 b6
  clear b6 o6 bt5
  go_wp2_with fail
  refine (lives_calls _).mono ?_
  rintro e w7 ⟨rfl, b7⟩
  have bt7 := below_trans bt6 b7
  clear b7 bt6
  go_wp2_with fail
  refine (Size_at 0 _ _ Z1).mono ?_
  rintro e w' ⟨rfl, rfl⟩
  go_wp2_with fail
  refine (Size_at (-1) _ _ Z2).mono ?_
  rintro e w' ⟨rfl, rfl⟩
  go_wp2_with fail
  refine (Size_at 33554433 _ _ Z3).mono ?_
  rintro e w' ⟨rfl, rfl⟩
  go_wp2_with fail
  refine (Size_at 33554432 _ _ Z4).mono ?_
  rintro e w' ⟨rfl, rfl⟩
  go_wp2_with fail
  go_ret
  exact ⟨rfl, bt7⟩
end Go.Proofs.Ytipjmglieedimaa
