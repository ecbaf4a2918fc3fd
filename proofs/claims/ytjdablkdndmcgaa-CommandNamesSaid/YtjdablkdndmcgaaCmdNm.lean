/- CmdNm: CommandNames. -/
import Derived.Test.YtjdablkdndmcgaaCmdW
import Derived.Test.YtjdablkdndmcgaaCmdN
namespace Go.Proofs.Ytjdablkdndmcgaa
set_option linter.unusedVariables false
set_option linter.unusedSimpArgs false
open Go.RowKit
theorem status_a : statusR [9, 9] 1 = (cm0, 1) := by kernel_rfl
theorem status_b : statusR [1, 7, 0, 0, 0, 0, 0, 0, 0, 0, 2, 0, 5, 0, 255, 255] 3 = (⟨1, 7, [5, -1], 0, 0, []⟩, 2) := by kernel_rfl
theorem status_c : statusR [9] 1 = (⟨9, 0, [], 0, 0, []⟩, 0) := by kernel_rfl
theorem parse_e : parseR [1, 7, 0, 0, 0, 0, 0, 0, 0, 1, 1, 0, 0, 0, 0, 0, 0, 0, 248, 127] = none := by kernel_rfl
theorem parse_f : parseR [1, 7, 0, 0, 0, 0, 0, 0, 0, 17, 1, 0, 0, 0, 0, 0, 0, 0, 0, 0] = none := by kernel_rfl
theorem parse_g : parseR [1, 7, 0, 0, 0, 0, 0, 0, 0, 16, 1, 0, 0, 0, 0, 0, 0, 0, 0, 128] = some ⟨1, 7, [0], 0, 0, []⟩ := by kernel_rfl
theorem bytes_h : bytesR ⟨3, 0, [], 0, 0, []⟩ = [] := if_neg (by decide)
theorem doubles_i : doublesR ⟨4, 0, [], 0, 0, []⟩ 0 = [] := if_neg (by decide)
set_option maxHeartbeats 4000000 in
set_option maxRecDepth 20000 in
theorem CommandNames_calls (w : World) : Calls Try.prog 6 #[] w fun e w' => e = .returned (.bool true) ∧ Below w.heap.size w w' := by
  have sl : SlI (w.alloc (.cells (nums .u8 [9, 9]).toArray 5)) .u8 (some ⟨w.heap.size, 0, none⟩) 2 [9, 9] := lit_sl [9, 9] (by decide)
  have HB := below_box0 w (.cells (nums .u8 [9, 9]).toArray 5)
  have HX := Lib.hid (And.intro sl <| HB)
  clear sl HB
  go_enter Try.func6, Try.ntmps6
  go_wp2_with fail
  obtain ⟨sl, HB⟩ := HX.out
  clear HX
  refine (Status_calls (some ⟨w.heap.size, 0, none⟩) 2 [9, 9] 1 _ sl (bytes_dec _ (by decide)) (by decide) _ _ (Lib.hid status_a)).mono ?_
  rintro en W1 ⟨⟨A1, a1, B1, c1, rfl, k1, _⟩, bb⟩
  replace HB := below_row HB HB.size (grown_of_below bb none) (fun k hk => by cases hk)
  try simp only [Option.getD_some, Option.getD_none] at k1
  clear sl bb
  have bb := below_box0 W1 (.cells (cmC cm0 A1 a1 B1 c1).toArray 34)
  have q1 : Blk (W1.alloc (.cells (cmC cm0 A1 a1 B1 c1).toArray 34)) W1.heap.size 34 (cmC cm0 A1 a1 B1 c1) := Blk.new W1 _ _
  replace k1 := k1.below bb
  replace HB := below_row HB HB.size (grown_of_below bb none) (fun k hk => by cases hk)
  clear bb
  have sl : SlI ((W1.alloc (.cells (cmC cm0 A1 a1 B1 c1).toArray 34)).alloc (.cells (nums .u8 [0, 2, 0, 5, 0, 255, 255]).toArray 5)) .u8 (some ⟨W1.heap.size + 1, 0, none⟩) 7 [0, 2, 0, 5, 0, 255, 255] := lit_at [0, 2, 0, 5, 0, 255, 255] (by simp) (by decide)
  have bb := below_box0 (W1.alloc (.cells (cmC cm0 A1 a1 B1 c1).toArray 34)) (.cells (nums .u8 [0, 2, 0, 5, 0, 255, 255]).toArray 5)
  replace HB := below_row HB HB.size (grown_of_below bb none) (fun k hk => by cases hk)
  clear bb
  have HX := Lib.hid (And.intro sl <| HB)
  clear sl HB
  clear k1 q1
  simp only [cmC, cm0, Option.getD_some, Option.getD_none, List.length_nil, List.length_cons, Option.isSome_some, Option.isSome_none, if_pos]
  go_wp2_with fail
  obtain ⟨sl, HB⟩ := HX.out
  clear HX
  refine (seven_calls 1 (some ⟨W1.heap.size + 1, 0, none⟩) 7 [0, 2, 0, 5, 0, 255, 255] _ sl (by decide) [1, 7, 0, 0, 0, 0, 0, 0, 0, 0, 2, 0, 5, 0, 255, 255] (Lib.hid rfl)).mono ?_
  rintro en V2 ⟨S2, d2, rfl, sl2, bb⟩
  replace HB := below_row HB HB.size (grown_of_below bb none) (fun k hk => by cases hk)
  clear sl bb
  have HX := Lib.hid (And.intro sl2 <| HB)
  clear sl2 HB
  go_wp2_with fail
  obtain ⟨sl2, HB⟩ := HX.out
  clear HX
  refine (Status_calls S2 d2 [1, 7, 0, 0, 0, 0, 0, 0, 0, 0, 2, 0, 5, 0, 255, 255] 3 _ sl2 (bytes_dec _ (by decide)) (by decide) _ _ (Lib.hid status_b)).mono ?_
  rintro en W2 ⟨⟨A2, a2, B2, c2, rfl, k2, _⟩, bb⟩
  replace HB := below_row HB HB.size (grown_of_below bb none) (fun k hk => by cases hk)
  try simp only [Option.getD_some, Option.getD_none] at k2
  clear sl2 bb
  have bb := below_box0 W2 (.cells (cmC ⟨1, 7, [5, -1], 0, 0, []⟩ A2 a2 B2 c2).toArray 34)
  have q2 : Blk (W2.alloc (.cells (cmC ⟨1, 7, [5, -1], 0, 0, []⟩ A2 a2 B2 c2).toArray 34)) W2.heap.size 34 (cmC ⟨1, 7, [5, -1], 0, 0, []⟩ A2 a2 B2 c2) := Blk.new W2 _ _
  replace k2 := k2.below bb
  replace HB := below_row HB HB.size (grown_of_below bb none) (fun k hk => by cases hk)
  clear bb
  have sl : SlI ((W2.alloc (.cells (cmC ⟨1, 7, [5, -1], 0, 0, []⟩ A2 a2 B2 c2).toArray 34)).alloc (.cells (nums .u8 [9]).toArray 5)) .u8 (some ⟨W2.heap.size + 1, 0, none⟩) 1 [9] := lit_at [9] (by simp) (by decide)
  have bb := below_box0 (W2.alloc (.cells (cmC ⟨1, 7, [5, -1], 0, 0, []⟩ A2 a2 B2 c2).toArray 34)) (.cells (nums .u8 [9]).toArray 5)
  replace q2 := q2.below bb
  replace HB := below_row HB HB.size (grown_of_below bb none) (fun k hk => by cases hk)
  clear bb
  have HX := Lib.hid (And.intro sl <| And.intro q2 <| HB)
  clear sl q2 HB
  clear k2
  simp only [cmC, cm0, Option.getD_some, Option.getD_none, List.length_nil, List.length_cons, Option.isSome_some, Option.isSome_none, if_pos]
  go_wp2_with fail
  obtain ⟨sl, q2, HB⟩ := HX.out
  clear HX
  refine (Status_calls (some ⟨W2.heap.size + 1, 0, none⟩) 1 [9] 1 _ sl (bytes_dec _ (by decide)) (by decide) _ _ (Lib.hid status_c)).mono ?_
  rintro en W3 ⟨⟨A3, a3, B3, c3, rfl, k3, _⟩, bb⟩
  replace q2 := q2.below bb
  replace HB := below_row HB HB.size (grown_of_below bb none) (fun k hk => by cases hk)
  try simp only [Option.getD_some, Option.getD_none] at k3
  clear sl bb
  have bb := below_box0 W3 (.cells (cmC ⟨9, 0, [], 0, 0, []⟩ A3 a3 B3 c3).toArray 34)
  have q3 : Blk (W3.alloc (.cells (cmC ⟨9, 0, [], 0, 0, []⟩ A3 a3 B3 c3).toArray 34)) W3.heap.size 34 (cmC ⟨9, 0, [], 0, 0, []⟩ A3 a3 B3 c3) := Blk.new W3 _ _
  replace k3 := k3.below bb
  replace q2 := q2.below bb
  replace HB := below_row HB HB.size (grown_of_below bb none) (fun k hk => by cases hk)
  clear bb
  have sl : SlI ((W3.alloc (.cells (cmC ⟨9, 0, [], 0, 0, []⟩ A3 a3 B3 c3).toArray 34)).alloc (.cells (nums .u8 [1, 1, 0, 0, 0, 0, 0, 0, 0, 248, 127]).toArray 5)) .u8 (some ⟨W3.heap.size + 1, 0, none⟩) 11 [1, 1, 0, 0, 0, 0, 0, 0, 0, 248, 127] := lit_at [1, 1, 0, 0, 0, 0, 0, 0, 0, 248, 127] (by simp) (by decide)
  have bb := below_box0 (W3.alloc (.cells (cmC ⟨9, 0, [], 0, 0, []⟩ A3 a3 B3 c3).toArray 34)) (.cells (nums .u8 [1, 1, 0, 0, 0, 0, 0, 0, 0, 248, 127]).toArray 5)
  replace q2 := q2.below bb
  replace HB := below_row HB HB.size (grown_of_below bb none) (fun k hk => by cases hk)
  clear bb
  have HX := Lib.hid (And.intro sl <| And.intro q2 <| HB)
  clear sl q2 HB
  clear k3 q3
  simp only [cmC, cm0, Option.getD_some, Option.getD_none, List.length_nil, List.length_cons, Option.isSome_some, Option.isSome_none, if_pos]
  go_wp2_with fail
  obtain ⟨sl, q2, HB⟩ := HX.out
  clear HX
  refine (seven_calls 1 (some ⟨W3.heap.size + 1, 0, none⟩) 11 [1, 1, 0, 0, 0, 0, 0, 0, 0, 248, 127] _ sl (by decide) [1, 7, 0, 0, 0, 0, 0, 0, 0, 1, 1, 0, 0, 0, 0, 0, 0, 0, 248, 127] (Lib.hid rfl)).mono ?_
  rintro en V4 ⟨S4, d4, rfl, sl4, bb⟩
  replace q2 := q2.below bb
  replace HB := below_row HB HB.size (grown_of_below bb none) (fun k hk => by cases hk)
  clear sl bb
  have HX := Lib.hid (And.intro sl4 <| And.intro q2 <| HB)
  clear sl4 q2 HB
  go_wp2_with fail
  obtain ⟨sl4, q2, HB⟩ := HX.out
  clear HX
  refine (Parse_calls S4 d4 [1, 7, 0, 0, 0, 0, 0, 0, 0, 1, 1, 0, 0, 0, 0, 0, 0, 0, 248, 127] _ sl4 (bytes_dec _ (by decide)) (by decide) _ (Lib.hid parse_e)).mono ?_
  rintro en W4 ⟨⟨A4, a4, B4, c4, rfl, k4, _⟩, bb⟩
  replace q2 := q2.below bb
  replace HB := below_row HB HB.size (grown_of_below bb none) (fun k hk => by cases hk)
  try simp only [Option.getD_some, Option.getD_none] at k4
  clear sl4 bb
  have bb := below_box0 W4 (.cells (cmC cm0 A4 a4 B4 c4).toArray 34)
  have q4 : Blk (W4.alloc (.cells (cmC cm0 A4 a4 B4 c4).toArray 34)) W4.heap.size 34 (cmC cm0 A4 a4 B4 c4) := Blk.new W4 _ _
  replace k4 := k4.below bb
  replace q2 := q2.below bb
  replace HB := below_row HB HB.size (grown_of_below bb none) (fun k hk => by cases hk)
  clear bb
  have sl : SlI ((W4.alloc (.cells (cmC cm0 A4 a4 B4 c4).toArray 34)).alloc (.cells (nums .u8 [17, 1, 0, 0, 0, 0, 0, 0, 0, 0, 0]).toArray 5)) .u8 (some ⟨W4.heap.size + 1, 0, none⟩) 11 [17, 1, 0, 0, 0, 0, 0, 0, 0, 0, 0] := lit_at [17, 1, 0, 0, 0, 0, 0, 0, 0, 0, 0] (by simp) (by decide)
  have bb := below_box0 (W4.alloc (.cells (cmC cm0 A4 a4 B4 c4).toArray 34)) (.cells (nums .u8 [17, 1, 0, 0, 0, 0, 0, 0, 0, 0, 0]).toArray 5)
  replace q2 := q2.below bb
  replace HB := below_row HB HB.size (grown_of_below bb none) (fun k hk => by cases hk)
  clear bb
  have HX := Lib.hid (And.intro sl <| And.intro q2 <| HB)
  clear sl q2 HB
  clear k4 q4
  simp only [cmC, cm0, Option.getD_some, Option.getD_none, List.length_nil, List.length_cons, Option.isSome_some, Option.isSome_none, if_pos]
  go_wp2_with fail
  obtain ⟨sl, q2, HB⟩ := HX.out
  clear HX
  refine (seven_calls 1 (some ⟨W4.heap.size + 1, 0, none⟩) 11 [17, 1, 0, 0, 0, 0, 0, 0, 0, 0, 0] _ sl (by decide) [1, 7, 0, 0, 0, 0, 0, 0, 0, 17, 1, 0, 0, 0, 0, 0, 0, 0, 0, 0] (Lib.hid rfl)).mono ?_
  rintro en V5 ⟨S5, d5, rfl, sl5, bb⟩
  replace q2 := q2.below bb
  replace HB := below_row HB HB.size (grown_of_below bb none) (fun k hk => by cases hk)
  clear sl bb
  have HX := Lib.hid (And.intro sl5 <| And.intro q2 <| HB)
  clear sl5 q2 HB
  go_wp2_with fail
  obtain ⟨sl5, q2, HB⟩ := HX.out
  clear HX
  refine (Parse_calls S5 d5 [1, 7, 0, 0, 0, 0, 0, 0, 0, 17, 1, 0, 0, 0, 0, 0, 0, 0, 0, 0] _ sl5 (bytes_dec _ (by decide)) (by decide) _ (Lib.hid parse_f)).mono ?_
  rintro en W5 ⟨⟨A5, a5, B5, c5, rfl, k5, _⟩, bb⟩
  replace q2 := q2.below bb
  replace HB := below_row HB HB.size (grown_of_below bb none) (fun k hk => by cases hk)
  try simp only [Option.getD_some, Option.getD_none] at k5
  clear sl5 bb
  have bb := below_box0 W5 (.cells (cmC cm0 A5 a5 B5 c5).toArray 34)
  have q5 : Blk (W5.alloc (.cells (cmC cm0 A5 a5 B5 c5).toArray 34)) W5.heap.size 34 (cmC cm0 A5 a5 B5 c5) := Blk.new W5 _ _
  replace k5 := k5.below bb
  replace q2 := q2.below bb
  replace HB := below_row HB HB.size (grown_of_below bb none) (fun k hk => by cases hk)
  clear bb
  have sl : SlI ((W5.alloc (.cells (cmC cm0 A5 a5 B5 c5).toArray 34)).alloc (.cells (nums .u8 [16, 1, 0, 0, 0, 0, 0, 0, 0, 0, 128]).toArray 5)) .u8 (some ⟨W5.heap.size + 1, 0, none⟩) 11 [16, 1, 0, 0, 0, 0, 0, 0, 0, 0, 128] := lit_at [16, 1, 0, 0, 0, 0, 0, 0, 0, 0, 128] (by simp) (by decide)
  have bb := below_box0 (W5.alloc (.cells (cmC cm0 A5 a5 B5 c5).toArray 34)) (.cells (nums .u8 [16, 1, 0, 0, 0, 0, 0, 0, 0, 0, 128]).toArray 5)
  replace q2 := q2.below bb
  replace HB := below_row HB HB.size (grown_of_below bb none) (fun k hk => by cases hk)
  clear bb
  have HX := Lib.hid (And.intro sl <| And.intro q2 <| HB)
  clear sl q2 HB
  clear k5 q5
  simp only [cmC, cm0, Option.getD_some, Option.getD_none, List.length_nil, List.length_cons, Option.isSome_some, Option.isSome_none, if_pos]
  go_wp2_with fail
  obtain ⟨sl, q2, HB⟩ := HX.out
  clear HX
  refine (seven_calls 1 (some ⟨W5.heap.size + 1, 0, none⟩) 11 [16, 1, 0, 0, 0, 0, 0, 0, 0, 0, 128] _ sl (by decide) [1, 7, 0, 0, 0, 0, 0, 0, 0, 16, 1, 0, 0, 0, 0, 0, 0, 0, 0, 128] (Lib.hid rfl)).mono ?_
  rintro en V6 ⟨S6, d6, rfl, sl6, bb⟩
  replace q2 := q2.below bb
  replace HB := below_row HB HB.size (grown_of_below bb none) (fun k hk => by cases hk)
  clear sl bb
  have HX := Lib.hid (And.intro sl6 <| And.intro q2 <| HB)
  clear sl6 q2 HB
  go_wp2_with fail
  obtain ⟨sl6, q2, HB⟩ := HX.out
  clear HX
  refine (Parse_calls S6 d6 [1, 7, 0, 0, 0, 0, 0, 0, 0, 16, 1, 0, 0, 0, 0, 0, 0, 0, 0, 128] _ sl6 (bytes_dec _ (by decide)) (by decide) _ (Lib.hid parse_g)).mono ?_
  rintro en W6 ⟨⟨A6, a6, B6, c6, rfl, k6, _⟩, bb⟩
  replace q2 := q2.below bb
  replace HB := below_row HB HB.size (grown_of_below bb none) (fun k hk => by cases hk)
  try simp only [Option.getD_some, Option.getD_none] at k6
  clear sl6 bb
  have bb := below_box0 W6 (.cells (cmC ⟨1, 7, [0], 0, 0, []⟩ A6 a6 B6 c6).toArray 34)
  have q6 : Blk (W6.alloc (.cells (cmC ⟨1, 7, [0], 0, 0, []⟩ A6 a6 B6 c6).toArray 34)) W6.heap.size 34 (cmC ⟨1, 7, [0], 0, 0, []⟩ A6 a6 B6 c6) := Blk.new W6 _ _
  replace k6 := k6.below bb
  replace q2 := q2.below bb
  replace HB := below_row HB HB.size (grown_of_below bb none) (fun k hk => by cases hk)
  clear bb
  have HX := Lib.hid (And.intro q2 <| And.intro q6 <| And.intro k6 <| HB)
  clear q2 q6 k6 HB
  simp only [cmC, cm0, Option.getD_some, Option.getD_none, List.length_nil, List.length_cons, Option.isSome_some, Option.isSome_none, if_pos]
  go_wp2_with fail
  obtain ⟨q2, q6, k6, HB⟩ := HX.out
  clear HX
  refine (Bytes_calls ⟨3, 0, [], 0, 0, []⟩ none 0 none 0 _ ⟨SlI.nil _ _, SlI.nil _ _⟩ ⟨by decide, by simp, by simp⟩ [] (Lib.hid bytes_h) 2 (Lib.hid (if_neg (by decide)))).mono ?_
  rintro en W7 ⟨A7, a7, rfl, _, bb⟩
  replace q2 := q2.below bb
  replace q6 := q6.below bb
  replace k6 := k6.below bb
  replace HB := below_row HB HB.size (grown_of_below bb none) (fun k hk => by cases hk)
  clear bb
  have HX := Lib.hid (And.intro q2 <| And.intro q6 <| And.intro k6 <| HB)
  clear q2 q6 k6 HB
  go_wp2_with fail
  obtain ⟨q2, q6, k6, HB⟩ := HX.out
  clear HX
  refine (Doubles_calls ⟨4, 0, [], 0, 0, []⟩ none 0 none 0 0 _ ⟨SlI.nil _ _, SlI.nil _ _⟩ ⟨by decide, by simp, by simp⟩ [] (Lib.hid doubles_i) 2 (Lib.hid (if_neg (by decide)))).mono ?_
  rintro en W8 ⟨A8, a8, rfl, _, bb⟩
  replace q2 := q2.below bb
  replace q6 := q6.below bb
  replace k6 := k6.below bb
  replace HB := below_row HB HB.size (grown_of_below bb none) (fun k hk => by cases hk)
  clear bb
  have HX := Lib.hid (And.intro q2 <| And.intro q6 <| And.intro k6 <| HB)
  clear q2 q6 k6 HB
  go_wp2_with fail
  obtain ⟨q2, q6, k6, HB⟩ := HX.out
  clear HX
  refine (lives_calls _).mono ?_
  rintro en W9 ⟨rfl, bb⟩
  replace q2 := q2.below bb
  replace q6 := q6.below bb
  replace k6 := k6.below bb
  replace HB := below_row HB HB.size (grown_of_below bb none) (fun k hk => by cases hk)
  clear bb
  have e2 := q2.cell 1
  have e6 := q6.cell 2
  simp only [cmC, List.length_nil, List.length_cons, List.getElem?_cons_zero, List.getElem?_cons_succ] at e2 e6
  have sl : SlI (W9.alloc (.cells (nums .i16 [0]).toArray 29)) .i16 (some ⟨W9.heap.size, 0, none⟩) 1 [0] := lit_sl [0] (by decide)
  have sz := k6.v.below (below_box0 W9 (.cells (nums .i16 [0]).toArray 29))
  replace HB := below_row HB HB.size (grown_of_below (below_box0 W9 (.cells (nums .i16 [0]).toArray 29)) none) (fun k hk => by cases hk)
  have HX := Lib.hid (And.intro sl <| And.intro sz <| HB)
  clear sl sz HB
  clear q2 q6 k6
  go_wp2_with fail
  obtain ⟨sl, sz, HB⟩ := HX.out
  clear HX
  refine (Same_int16_b A6 (some ⟨W9.heap.size, 0, none⟩) a6 1 [0] [0] _ sz sl).mono ?_
  rintro en V1 ⟨rfl, bb⟩
  rw [decide_eq_true (rfl : ([0] : List Int) = [0])]
  replace HB := below_row HB HB.size (grown_of_below bb none) (fun k hk => by cases hk)
  clear bb sl sz e2 e6
  replace HB := Lib.hid HB
  go_wp2_with fail
  refine (Name_calls 12 _).mono ?_
  rintro en V2 ⟨rfl, bb⟩
  rw [show wordS 12 nameL = ⟨#[100, 117, 109, 112]⟩ from by kernel_rfl]
  replace HB := Lib.hid (below_row HB.out HB.out.size (grown_of_below bb none) (fun k hk => by cases hk))
  clear bb
  go_wp2_with fail
  refine (Name_calls 13 _).mono ?_
  rintro en V3 ⟨rfl, bb⟩
  rw [show wordS 13 nameL = ⟨#[]⟩ from by kernel_rfl]
  replace HB := Lib.hid (below_row HB.out HB.out.size (grown_of_below bb none) (fun k hk => by cases hk))
  clear bb
  go_wp2_with fail
  refine (Word_calls 9 _).mono ?_
  rintro en V4 ⟨rfl, bb⟩
  rw [show wordS 9 wordL = ⟨#[100, 111, 119, 110]⟩ from by kernel_rfl]
  replace HB := Lib.hid (below_row HB.out HB.out.size (grown_of_below bb none) (fun k hk => by cases hk))
  clear bb
  go_wp2_with fail
  refine (Word_calls (-1) _).mono ?_
  rintro en V5 ⟨rfl, bb⟩
  rw [show wordS (-1) wordL = ⟨#[]⟩ from by kernel_rfl]
  replace HB := Lib.hid (below_row HB.out HB.out.size (grown_of_below bb none) (fun k hk => by cases hk))
  clear bb
  go_wp2_with fail
  refine (CUpdates_calls 2 _).mono ?_
  rintro en V5 ⟨rfl, rfl⟩
  go_wp2_with fail
  refine (CUpdates_calls 3 _).mono ?_
  rintro en V5 ⟨rfl, rfl⟩
  go_wp2_with fail
  refine (CCheck_calls ⟨4, 0, [], 1, 0, []⟩ none 0 none 0 _ ⟨SlI.nil _ _, SlI.nil _ _⟩).mono ?_
  rintro en V9 ⟨rfl, bb⟩
  rw [if_neg (show ¬ cmOk ⟨4, 0, [], 1, 0, []⟩ by decide)]
  replace HB := Lib.hid (below_row HB.out HB.out.size (grown_of_below bb none) (fun k hk => by cases hk))
  clear bb
  go_wp2_with fail
  go_ret
  exact ⟨rfl, HB.out⟩
end Go.Proofs.Ytjdablkdndmcgaa
