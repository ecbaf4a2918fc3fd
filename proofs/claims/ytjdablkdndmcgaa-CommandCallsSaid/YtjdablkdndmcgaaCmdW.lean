/- CmdW: lives. -/
import Derived.Test.YtjdablkdndmcgaaCmdV
namespace Go.Proofs.Ytjdablkdndmcgaa
set_option linter.unusedVariables false
set_option linter.unusedSimpArgs false
open Go.RowKit
theorem bytes_dec (l : List Int) (h : l.all (fun x => decide (0 ≤ x) && decide (x ≤ 255)) = true) : Bytes l := fun x hx => by
  have := List.all_eq_true.1 h x hx
  simp at this
  exact this
set_option maxHeartbeats 4000000 in
set_option maxRecDepth 20000 in
theorem lives_calls (w : World) : Calls Try.prog 8 #[] w fun e w' => e = .returned (.bool true) ∧ Below w.heap.size w w' := by
  have sl : SlI (w.alloc (.cells (nums .u8 [4]).toArray 5)) .u8 (some ⟨w.heap.size, 0, none⟩) 1 [4] := lit_sl [4] (by decide)
  have HB := below_box0 w (.cells (nums .u8 [4]).toArray 5)
  have HX := Lib.hid (And.intro sl <| HB)
  clear sl HB
  go_enter Try.func8, Try.ntmps8
  go_wp2_with fail
  obtain ⟨sl, HB⟩ := HX.out
  clear HX
  refine (Parse_calls (some ⟨w.heap.size, 0, none⟩) 1 [4] _ sl (bytes_dec _ (by decide)) (by decide) _ (Lib.hid parse_a)).mono ?_
  rintro en W1 ⟨⟨A1, a1, B1, c1, rfl, k1, _⟩, bb⟩
  replace HB := below_row HB HB.size (grown_of_below bb none) (fun k hk => by cases hk)
  simp only [Option.getD_some, Option.getD_none] at k1
  clear sl bb
  obtain ⟨x1, hx1⟩ : ∃ x : Cm, x = ⟨4, 0, [], 0, 0, []⟩ := ⟨_, rfl⟩
  have bb := below_box0 W1 (.cells (cmC ⟨4, 0, [], 0, 0, []⟩ A1 a1 B1 c1).toArray 34)
  have q1 : Blk (W1.alloc (.cells (cmC ⟨4, 0, [], 0, 0, []⟩ A1 a1 B1 c1).toArray 34)) W1.heap.size 34 (cmC ⟨4, 0, [], 0, 0, []⟩ A1 a1 B1 c1) := Blk.new W1 _ _
  replace k1 := k1.below bb
  replace HB := below_row HB HB.size (grown_of_below bb none) (fun k hk => by cases hk)
  clear hx1 x1
  have sl : SlI ((W1.alloc (.cells (cmC ⟨4, 0, [], 0, 0, []⟩ A1 a1 B1 c1).toArray 34)).alloc (.cells (nums .u8 [4, 0]).toArray 5)) .u8 (some ⟨W1.heap.size + 1, 0, none⟩) 2 [4, 0] := lit_at [4, 0] (by simp) (by decide)
  have bb := below_box0 (W1.alloc (.cells (cmC ⟨4, 0, [], 0, 0, []⟩ A1 a1 B1 c1).toArray 34)) (.cells (nums .u8 [4, 0]).toArray 5)
  replace q1 := q1.below bb
  replace k1 := k1.below bb
  replace HB := below_row HB HB.size (grown_of_below bb none) (fun k hk => by cases hk)
  clear bb
  have HX := Lib.hid (And.intro sl <| And.intro q1 <| HB)
  clear sl q1 HB
  clear k1
  simp only [cmC, cm0, Option.getD_some, Option.getD_none, List.length_nil, List.length_cons, Option.isSome_some, Option.isSome_none, if_pos]
  go_wp2_with fail
  obtain ⟨sl, q1, HB⟩ := HX.out
  clear HX
  refine (Parse_calls (some ⟨W1.heap.size + 1, 0, none⟩) 2 [4, 0] _ sl (bytes_dec _ (by decide)) (by decide) _ (Lib.hid parse_b)).mono ?_
  rintro en W2 ⟨⟨A2, a2, B2, c2, rfl, k2, _⟩, bb⟩
  replace q1 := q1.below bb
  replace HB := below_row HB HB.size (grown_of_below bb none) (fun k hk => by cases hk)
  simp only [Option.getD_some, Option.getD_none] at k2
  clear sl bb
  obtain ⟨x2, hx2⟩ : ∃ x : Cm, x = cm0 := ⟨_, rfl⟩
  have bb := below_box0 W2 (.cells (cmC cm0 A2 a2 B2 c2).toArray 34)
  have q2 : Blk (W2.alloc (.cells (cmC cm0 A2 a2 B2 c2).toArray 34)) W2.heap.size 34 (cmC cm0 A2 a2 B2 c2) := Blk.new W2 _ _
  replace k2 := k2.below bb
  replace q1 := q1.below bb
  replace HB := below_row HB HB.size (grown_of_below bb none) (fun k hk => by cases hk)
  clear hx2 x2
  have sl : SlI ((W2.alloc (.cells (cmC cm0 A2 a2 B2 c2).toArray 34)).alloc (.cells (nums .u8 [0, 2, 0, 5, 0, 255, 255]).toArray 5)) .u8 (some ⟨W2.heap.size + 1, 0, none⟩) 7 [0, 2, 0, 5, 0, 255, 255] := lit_at [0, 2, 0, 5, 0, 255, 255] (by simp) (by decide)
  have bb := below_box0 (W2.alloc (.cells (cmC cm0 A2 a2 B2 c2).toArray 34)) (.cells (nums .u8 [0, 2, 0, 5, 0, 255, 255]).toArray 5)
  replace q2 := q2.below bb
  replace k2 := k2.below bb
  replace q1 := q1.below bb
  replace HB := below_row HB HB.size (grown_of_below bb none) (fun k hk => by cases hk)
  clear bb
  have HX := Lib.hid (And.intro sl <| And.intro q1 <| HB)
  clear sl q1 HB
  clear k2 q2
  simp only [cmC, cm0, Option.getD_some, Option.getD_none, List.length_nil, List.length_cons, Option.isSome_some, Option.isSome_none, if_pos]
  go_wp2_with fail
  obtain ⟨sl, q1, HB⟩ := HX.out
  clear HX
  refine (seven_calls 1 (some ⟨W2.heap.size + 1, 0, none⟩) 7 [0, 2, 0, 5, 0, 255, 255] _ sl (by decide) [1, 7, 0, 0, 0, 0, 0, 0, 0, 0, 2, 0, 5, 0, 255, 255] (Lib.hid rfl)).mono ?_
  rintro en V3 ⟨S3, d3, rfl, sl3, bb⟩
  replace q1 := q1.below bb
  replace HB := below_row HB HB.size (grown_of_below bb none) (fun k hk => by cases hk)
  clear sl bb
  have HX := Lib.hid (And.intro sl3 <| And.intro q1 <| HB)
  clear sl3 q1 HB
  go_wp2_with fail
  obtain ⟨sl3, q1, HB⟩ := HX.out
  clear HX
  refine (Parse_calls S3 d3 [1, 7, 0, 0, 0, 0, 0, 0, 0, 0, 2, 0, 5, 0, 255, 255] _ sl3 (bytes_dec _ (by decide)) (by decide) _ (Lib.hid parse_c)).mono ?_
  rintro en W3 ⟨⟨A3, a3, B3, c3, rfl, k3, _⟩, bb⟩
  replace q1 := q1.below bb
  replace HB := below_row HB HB.size (grown_of_below bb none) (fun k hk => by cases hk)
  simp only [Option.getD_some, Option.getD_none] at k3
  clear sl3 bb
  obtain ⟨x3, hx3⟩ : ∃ x : Cm, x = ⟨1, 7, [5, -1], 0, 0, []⟩ := ⟨_, rfl⟩
  have bb := below_box0 W3 (.cells (cmC ⟨1, 7, [5, -1], 0, 0, []⟩ A3 a3 B3 c3).toArray 34)
  have q3 : Blk (W3.alloc (.cells (cmC ⟨1, 7, [5, -1], 0, 0, []⟩ A3 a3 B3 c3).toArray 34)) W3.heap.size 34 (cmC ⟨1, 7, [5, -1], 0, 0, []⟩ A3 a3 B3 c3) := Blk.new W3 _ _
  replace k3 := k3.below bb
  replace q1 := q1.below bb
  replace HB := below_row HB HB.size (grown_of_below bb none) (fun k hk => by cases hk)
  clear hx3 x3
  have sl : SlI ((W3.alloc (.cells (cmC ⟨1, 7, [5, -1], 0, 0, []⟩ A3 a3 B3 c3).toArray 34)).alloc (.cells (nums .u8 [1, 1, 0, 0, 0, 0, 0, 0, 0, 248, 63]).toArray 5)) .u8 (some ⟨W3.heap.size + 1, 0, none⟩) 11 [1, 1, 0, 0, 0, 0, 0, 0, 0, 248, 63] := lit_at [1, 1, 0, 0, 0, 0, 0, 0, 0, 248, 63] (by simp) (by decide)
  have bb := below_box0 (W3.alloc (.cells (cmC ⟨1, 7, [5, -1], 0, 0, []⟩ A3 a3 B3 c3).toArray 34)) (.cells (nums .u8 [1, 1, 0, 0, 0, 0, 0, 0, 0, 248, 63]).toArray 5)
  replace q3 := q3.below bb
  replace k3 := k3.below bb
  replace q1 := q1.below bb
  replace HB := below_row HB HB.size (grown_of_below bb none) (fun k hk => by cases hk)
  clear bb
  have HX := Lib.hid (And.intro sl <| And.intro q1 <| And.intro q3 <| And.intro k3 <| HB)
  clear sl q1 q3 k3 HB
  simp only [cmC, cm0, Option.getD_some, Option.getD_none, List.length_nil, List.length_cons, Option.isSome_some, Option.isSome_none, if_pos]
  go_wp2_with fail
  obtain ⟨sl, q1, q3, k3, HB⟩ := HX.out
  clear HX
  refine (seven_calls 1 (some ⟨W3.heap.size + 1, 0, none⟩) 11 [1, 1, 0, 0, 0, 0, 0, 0, 0, 248, 63] _ sl (by decide) [1, 7, 0, 0, 0, 0, 0, 0, 0, 1, 1, 0, 0, 0, 0, 0, 0, 0, 248, 63] (Lib.hid rfl)).mono ?_
  rintro en V4 ⟨S4, d4, rfl, sl4, bb⟩
  replace q1 := q1.below bb
  replace q3 := q3.below bb
  replace k3 := k3.below bb
  replace HB := below_row HB HB.size (grown_of_below bb none) (fun k hk => by cases hk)
  clear sl bb
  have HX := Lib.hid (And.intro sl4 <| And.intro q1 <| And.intro q3 <| And.intro k3 <| HB)
  clear sl4 q1 q3 k3 HB
  go_wp2_with fail
  obtain ⟨sl4, q1, q3, k3, HB⟩ := HX.out
  clear HX
  refine (Parse_calls S4 d4 [1, 7, 0, 0, 0, 0, 0, 0, 0, 1, 1, 0, 0, 0, 0, 0, 0, 0, 248, 63] _ sl4 (bytes_dec _ (by decide)) (by decide) _ (Lib.hid parse_d)).mono ?_
  rintro en W4 ⟨⟨A4, a4, B4, c4, rfl, k4, _⟩, bb⟩
  replace q1 := q1.below bb
  replace q3 := q3.below bb
  replace k3 := k3.below bb
  replace HB := below_row HB HB.size (grown_of_below bb none) (fun k hk => by cases hk)
  simp only [Option.getD_some, Option.getD_none] at k4
  clear sl4 bb
  obtain ⟨x4, hx4⟩ : ∃ x : Cm, x = ⟨1, 7, [2], 0, 0, []⟩ := ⟨_, rfl⟩
  have bb := below_box0 W4 (.cells (cmC ⟨1, 7, [2], 0, 0, []⟩ A4 a4 B4 c4).toArray 34)
  have q4 : Blk (W4.alloc (.cells (cmC ⟨1, 7, [2], 0, 0, []⟩ A4 a4 B4 c4).toArray 34)) W4.heap.size 34 (cmC ⟨1, 7, [2], 0, 0, []⟩ A4 a4 B4 c4) := Blk.new W4 _ _
  replace k4 := k4.below bb
  replace q1 := q1.below bb
  replace q3 := q3.below bb
  replace k3 := k3.below bb
  replace HB := below_row HB HB.size (grown_of_below bb none) (fun k hk => by cases hk)
  clear hx4 x4
  have e1 := q1.cell 0
  have e2 := q3.cell 1
  have e3 := q3.cell 2
  have e4 := q4.cell 2
  simp only [cmC, cm0, List.length_nil, List.length_cons, List.getElem?_cons_zero, List.getElem?_cons_succ] at e1 e2 e3 e4
  have sl : SlI ((W4.alloc (.cells (cmC ⟨1, 7, [2], 0, 0, []⟩ A4 a4 B4 c4).toArray 34)).alloc (.cells (nums .i16 [5, -1]).toArray 29)) .i16 (some ⟨W4.heap.size + 1, 0, none⟩) 2 [5, -1] := lit_at [5, -1] (by simp) (by decide)
  have sl3 := k3.v.below (below_box0 _ (.cells (nums .i16 [5, -1]).toArray 29))
  have sl4 := k4.v.below (below_box0 _ (.cells (nums .i16 [5, -1]).toArray 29))
  have q4' := q4.below (below_box0 _ (.cells (nums .i16 [5, -1]).toArray 29))
  replace HB := below_row HB HB.size (grown_of_below (below_box0 _ (.cells (nums .i16 [5, -1]).toArray 29)) none) (fun k hk => by cases hk)
  have HX := Lib.hid (And.intro sl <| And.intro sl3 <| And.intro sl4 <| And.intro q4' <| HB)
  clear sl sl3 sl4 q4' HB
  clear k3 k4 q1 q3 q4 bb
  simp only [cmC, cm0, Option.getD_some, Option.getD_none, List.length_nil, List.length_cons, Option.isSome_some, Option.isSome_none, if_pos]
  go_wp2_with fail
  obtain ⟨sl, sl3, sl4, q4, HB⟩ := HX.out
  clear HX e1 e2 e3 e4
  refine (Same_int16_b A3 (some ⟨W4.heap.size + 1, 0, none⟩) a3 2 [5, -1] [5, -1] _ sl3 sl).mono ?_
  rintro en V5 ⟨rfl, bb⟩
  rw [decide_eq_true (rfl : ([5, -1] : List Int) = [5, -1])]
  replace q4 := q4.below bb
  replace sl4 := sl4.below bb
  replace HB := below_row HB HB.size (grown_of_below bb none) (fun k hk => by cases hk)
  have e4 := q4.cell 2
  simp only [cmC, List.length_nil, List.length_cons, List.getElem?_cons_zero, List.getElem?_cons_succ] at e4
  have sl5 : SlI (V5.alloc (.cells (nums .i16 [2]).toArray 29)) .i16 (some ⟨V5.heap.size, 0, none⟩) 1 [2] := lit_sl [2] (by decide)
  have sl6 := sl4.below (below_box0 V5 (.cells (nums .i16 [2]).toArray 29))
  replace HB := below_row HB HB.size (grown_of_below (below_box0 V5 (.cells (nums .i16 [2]).toArray 29)) none) (fun k hk => by cases hk)
  have HX := Lib.hid (And.intro sl5 <| And.intro sl6 HB)
  clear sl sl3 sl4 sl5 sl6 HB q4 bb
  go_wp2_with fail
  obtain ⟨sl5, sl6, HB⟩ := HX.out
  refine (Same_int16_b A4 (some ⟨V5.heap.size, 0, none⟩) a4 1 [2] [2] _ sl6 sl5).mono ?_
  rintro en V6 ⟨rfl, bb⟩
  rw [decide_eq_true (rfl : ([2] : List Int) = [2])]
  replace HB := Lib.hid (below_row HB HB.size (grown_of_below bb none) (fun k hk => by cases hk))
  clear sl5 sl6 bb HX
  go_wp2_with fail
  go_ret
  exact ⟨rfl, HB.out⟩
end Go.Proofs.Ytjdablkdndmcgaa
