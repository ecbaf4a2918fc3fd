/- The chapter's example. -/
import Derived.Test.YthpgaggceefamaaTabMake
import Derived.Test.YthpgaggceefamaaTab2
import Derived.Test.YthpgaggceefamaaBook0
namespace Go.Proofs.Ythpgaggceefamaa
set_option linter.unusedVariables false
set_option linter.unusedSimpArgs false
open Go.RowKit
theorem mat22 {k : IntKind} {e e2 : TypeId} (W : World) (B : Nat) (hB : W.heap.size = B) (x y x' y' : Int) :
    SlS (((W.alloc (.cells #[.int k x, .int k y] e)).alloc (.cells #[.int k x', .int k y'] e)).alloc (.cells #[.slice (some ⟨B, 0, none⟩) 2 2, .slice (some ⟨B + 1, 0, none⟩) 2 2] e2)) k (some ⟨B + 1 + 1, 0, none⟩) 2 [[x, y], [x', y']] := by
  have h1 := lit_at (w := W) (k := k) (e := e) [x, y] hB (by simp [maxLen])
  have h2 := lit_at (w := W.alloc (.cells #[.int k x, .int k y] e)) (k := k) (e := e) (B := B + 1) [x', y'] (by simp [hB]) (by simp [maxLen])
  have h3 := rd_at (w := (W.alloc (.cells #[.int k x, .int k y] e)).alloc (.cells #[.int k x', .int k y'] e)) (e := e2) (B := B + 1 + 1) [.slice (some ⟨B, 0, none⟩) 2 2, .slice (some ⟨B + 1, 0, none⟩) 2 2] (by simp [hB]) (by simp [maxLen])
  exact ⟨⟨_, h3, rowsI_2 ((h1.below (below_box _)).below (below_box _)) (h2.below (below_box _))⟩, by simp, by simp [maxLen]⟩
set_option maxHeartbeats 400000 in
theorem lives_calls (w : World) : Calls Try.prog 8 #[] w fun e w' => e = .returned (.bool true) ∧ Below w.heap.size w w' := by
  have M : makeT bookL [3, 9] = ([[9, 49], [81, 1]], 0) := by decide +kernel
  have MS : sumT [[9, 49], [81, 1]] [0, 1] = (10, 0) := by decide +kernel
  have ML : leastT [[9, 49], [81, 1]] = (10, [0, 1]) := by decide +kernel
  have TM := fun A1 c1 A2 c2 w h k => TMake_calls A1 A2 c1 c2 bookL [3, 9] w h k
  have TS := fun A1 c1 A2 c2 w h k => TSum_calls A1 A2 c1 c2 [[9, 49], [81, 1]] [0, 1] w h k (by decide)
  have TL := fun A1 c1 w h => TLeast_calls A1 c1 [[9, 49], [81, 1]] w h
  rw [M] at TM
  rw [MS] at TS
  rw [ML] at TL
  clear M MS ML
  go_enter Try.func8, Try.ntmps8
  go_wp2_with fail
  refine (book_calls _).mono ?_
  rintro e w1 ⟨A1, c1, rfl, hb1, b1⟩
  go_wp2_with fail
  refine (TM A1 c1 _ _ _ (hb1.below (below_box _)) (lit_sl [3, 9] (by simp [maxLen]))).mono ?_
  rintro e w2 ⟨A2, c2, rfl, hs2, b2⟩
  have bw2 := below_trans (below_alloc b1 _) b2
  have b3 := below_alloc bw2 (.cells #[.slice A2 2 c2] 35)
  have hbox := box_cell (w := w2) 35 (.slice A2 2 c2)
  have hs3 := hs2.below (below_box (.cells #[.slice A2 2 c2] 35))
  clear b1 b2 hb1 bw2
  go_wp2_with fail
  have hs3' := hs3.below (below_box (.cells #[.int .u8 0, .int .u8 1] 5))
  have hk3 := lit_at (w := (w2.alloc (Obj.cells #[Value.slice A2 2 c2] 35))) (k := .u8) (e := 5) (B := w2.heap.size + 1) [0, 1] (by simp) (by simp [maxLen])
  have TSr := TS A2 c2 _ _ _ hs3' hk3
  refine TSr.mono ?_
  rintro e w4 ⟨rfl, b4⟩
  have hbox := cell_below b4 _ _ (cell_below (below_box (.cells #[.int .u8 0, .int .u8 1] 5)) _ _ hbox)
  have hs4 := hs3'.below b4
  have b5 := below_trans (below_alloc b3 _) b4
  clear b3 b4 hs3 hs2 hs3' hk3 TSr
  go_wp2_with fail
  refine (TL A2 c2 _ hs4).mono ?_
  rintro e w5 ⟨A5, c5, rfl, o5, b6⟩
  have hbox := cell_below b6 _ _ hbox
  have hs5 := hs4.below b6
  have b7 := below_trans b5 b6
  clear b5 b6 hs4
  go_wp2_with fail
  have m22 := mat22 (k := .i64) (e := 2) (e2 := 55) w5 w5.heap.size rfl 9 49 81 1
  have bb := below_alloc (below_alloc (below_alloc (Below.refl w5.heap.size w5) (.cells #[.int .i64 9, .int .i64 49] 2)) (.cells #[.int .i64 81, .int .i64 1] 2)) (.cells #[.slice (some ⟨w5.heap.size, 0, none⟩) 2 2, .slice (some ⟨w5.heap.size + 1, 0, none⟩) 2 2] 55)
  refine (Lists_int64_calls A2 (some ⟨w5.heap.size + 1 + 1, 0, none⟩) c2 2 [[9, 49], [81, 1]] [[9, 49], [81, 1]] _ (hs5.below bb) m22).mono ?_
  rintro e w6 ⟨rfl, b8⟩
  have b9 := below_trans bb b8
  have o6 := (OwnI.sl o5).below b9
  have b10 := below_trans b7 b9
  clear b7 b8 bb m22 hs5 o5 hbox b9
  go_wp2_with fail
  refine (Same_byte_b A5 (some ⟨w6.heap.size, 0, none⟩) c5 2 [0, 1] [0, 1] _ (o6.below (below_box _)) (lit_at [0, 1] rfl (by simp [maxLen]))).mono ?_
  rintro e w7 ⟨rfl, b11⟩
  go_wp2_with fail
  go_ret
  exact ⟨rfl, below_trans (below_alloc b10 _) b11⟩
end Go.Proofs.Ythpgaggceefamaa
