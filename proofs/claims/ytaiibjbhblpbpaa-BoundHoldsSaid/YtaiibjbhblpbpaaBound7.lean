import Derived.Test.YtaiibjbhblpbpaaBound6
import Derived.Test.YtaiibjbhblpbpaaVecRef2
namespace Go.Proofs.Ytaiibjbhblpbpaa
set_option linter.unusedVariables false
set_option linter.unusedSimpArgs false
open Go.RowKit
set_option maxHeartbeats 1000000 in
theorem bcalls_core (X Y : Option Addr) (cx cy : Nat) (x y : List Int) (a r d u : Int) (w : World) (hx : SlI w .i32 X cx x) (hy : SlI w .i32 Y cy y) (l1 : x.length ≤ 2000) (l2 : y.length ≤ 2000) :
    Calls Try.prog 7 #[.slice X x.length cx, .slice Y y.length cy, .int .i64 a, .int .i64 r, .int .i64 d, .int .i64 u] w fun e w' => e = .returned (.bool true) ∧ Below w.heap.size w w' := by
  have i1 : ¬ (x.length : Int) > 2000 := by omega
  have i2 : ¬ (y.length : Int) > 2000 := by omega
  have C1 := fun w h1 h2 => Radius_calls X Y cx cy x y w h1 h2
  have C2 := fun w h1 h2 => RRadius_calls X Y cx cy x y w h1 h2
  have C3 := fun w => Of_calls a r w
  have C4 := fun w => ROf_calls a r w
  have C5 := fun w => Low_calls a r w
  have C6 := fun w => RLow_calls a r w
  have C7 := fun w => High_calls a r w
  have C8 := fun w => RHigh_calls a r w
  have C9 := fun w => May_calls a d u w
  have C10 := fun w => RMay_calls a d u w
  have C11 := fun w => Holds_calls d a r w
  have C12 := fun w => RHolds_calls d a r w
  generalize (radI x y).1 = n1 at *
  generalize (radI x y).2 = n2 at *
  generalize (endI a r 0 1).1 = o1 at *
  generalize (endI a r 0 1).2 = o2 at *
  generalize (endI a r a (-1)).1 = p1 at *
  generalize (endI a r a (-1)).2 = p2 at *
  generalize (endI a r a 1).1 = q1 at *
  generalize (endI a r a 1).2 = q2 at *
  generalize mayB a d u = mb at *
  generalize holdsB d a r = hb at *
  go_enter Try.func7, Try.ntmps7
  go_wp2_with fail
  refine (lives_calls _).mono ?_
  rintro e w1 ⟨rfl, b1⟩
  go_wp2_with fail
  refine (C1 _ (hx.below b1) (hy.below b1)).mono ?_
  rintro e w2 ⟨rfl, b2⟩
  have b02 := below_trans b1 b2
  clear b1 b2
  go_wp2_with fail
  refine (C2 _ (hx.below b02) (hy.below b02)).mono ?_
  rintro e w3 ⟨rfl, b3⟩
  have b03 := below_trans b02 b3
  clear b02 b3
  go_wp2_with fail
  refine (C3 _).mono ?_
  rintro e w4 ⟨rfl, b4⟩
  have b04 := below_trans b03 b4
  clear b03 b4
  go_wp2_with fail
  refine (C4 _).mono ?_
  rintro e w' ⟨rfl, rfl⟩
  go_wp2_with fail
  refine (C5 _).mono ?_
  rintro e w5 ⟨rfl, b5⟩
  have b05 := below_trans b04 b5
  clear b04 b5
  go_wp2_with fail
  refine (C6 _).mono ?_
  rintro e w' ⟨rfl, rfl⟩
  go_wp2_with fail
  refine (C7 _).mono ?_
  rintro e w6 ⟨rfl, b6⟩
  have b06 := below_trans b05 b6
  clear b05 b6
  go_wp2_with fail
  refine (C8 _).mono ?_
  rintro e w' ⟨rfl, rfl⟩
  go_wp2_with fail
  refine (C9 _).mono ?_
  rintro e w' ⟨rfl, rfl⟩
  go_wp2_with fail
  refine (C10 _).mono ?_
  rintro e w' ⟨rfl, rfl⟩
  go_wp2_with fail
  refine (C11 _).mono ?_
  rintro e w7 ⟨rfl, b7⟩
  have b07 := below_trans b06 b7
  clear b06 b7
  go_wp2_with fail
  refine (C12 _).mono ?_
  rintro e w' ⟨rfl, rfl⟩
  go_wp2_with fail
  go_ret
  exact ⟨by first | rfl | simp, b07⟩
theorem BoundCalls_row (X : Option Addr) (cx : Nat) (x : List Int) (Y : Option Addr) (cy : Nat) (y : List Int) (a r d u : Int) (w : World) (hx : SlI w .i32 X cx x) (_fx : ∀ n ∈ x, (Lit.int .i32 n).wf = true) (_sx : x.length * 4 ≤ 140737488351232) (hy : SlI w .i32 Y cy y) (_fy : ∀ n ∈ y, (Lit.int .i32 n).wf = true) (_sy : y.length * 4 ≤ 140737488351232) (_a : (Lit.int .i64 a).wf = true) (_r : (Lit.int .i64 r).wf = true) (_d : (Lit.int .i64 d).wf = true) (_u : (Lit.int .i64 u).wf = true) :
    Calls Try.prog 7 #[.slice X x.length cx, .slice Y y.length cy, .int .i64 a, .int .i64 r, .int .i64 d, .int .i64 u] w fun e w' => e = .returned (.bool true) ∧ Below w.heap.size w w' := by
  have hm := hx.len
  have hm2 := hy.len
  by_cases h1 : x.length > 2000
  · have i1 : (x.length : Int) > 2000 := by omega
    go_enter Try.func7, Try.ntmps7
    go_wp2_with fail
    refine (lives_calls _).mono ?_
    rintro e w1 ⟨rfl, b1⟩
    go_wp2_with fail
    go_ret
    exact ⟨rfl, b1⟩
  · by_cases h2 : y.length > 2000
    · have i1 : ¬ (x.length : Int) > 2000 := by omega
      have i2 : (y.length : Int) > 2000 := by omega
      go_enter Try.func7, Try.ntmps7
      go_wp2_with fail
      refine (lives_calls _).mono ?_
      rintro e w1 ⟨rfl, b1⟩
      go_wp2_with fail
      go_ret
      exact ⟨rfl, b1⟩
    · exact bcalls_core X Y cx cy x y a r d u w hx hy (by omega) (by omega)
end Go.Proofs.Ytaiibjbhblpbpaa
