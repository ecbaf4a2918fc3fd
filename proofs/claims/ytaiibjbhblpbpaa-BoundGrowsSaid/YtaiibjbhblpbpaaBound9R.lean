import Derived.Test.YtaiibjbhblpbpaaBound9
import Derived.Test.YtaiibjbhblpbpaaSized
namespace Go.Proofs.Ytaiibjbhblpbpaa
set_option linter.unusedVariables false
set_option linter.unusedSimpArgs false
open Go.RowKit
set_option maxHeartbeats 1000000 in
set_option maxRecDepth 100000 in
theorem BoundGrows_row (a r more far u : Int) (w : World) (_a : (Lit.int .i64 a).wf = true) (_r : (Lit.int .i64 r).wf = true) (_m : (Lit.int .i64 more).wf = true) (_f : (Lit.int .i64 far).wf = true) (hu : (Lit.int .i64 u).wf = true) :
    Calls Try.prog 5 #[.int .i64 a, .int .i64 r, .int .i64 more, .int .i64 far, .int .i64 u] w fun e w' => e = .returned (.bool true) ∧ Below w.heap.size w w' := by
  cases hk : okB a r with
  | false =>
    have O1 := Lib.hid (endI_f (x := 0) (t := 1) hk)
    clear hk
    go_enter Try.func5, Try.ntmps5
    go_wp2_with fail
    refine (lives_calls _).mono ?_
    rintro e w1 ⟨rfl, b1⟩
    go_wp2_with fail
    refine (Of_is _ _ _ _ O1).mono ?_
    rintro e w2 ⟨rfl, b2⟩
    go_wp2_with fail
    go_ret
    exact ⟨rfl, below_trans b1 b2⟩
  | true =>
    by_cases hg : 0 ≤ more ∧ more ≤ 70368744177664 ∧ 0 ≤ far ∧ far ≤ 8388608
    · exact grows_core a r more far u w hk hg.1 hg.2.1 hg.2.2.1 hg.2.2.2 (bdI64 hu).2
    · have O1 := Lib.hid (show endI a r 0 1 = (bnd a r, 0) by rw [endI_t hk]; congr 1; omega)
      have cs : more < 0 ∨ (¬ more < 0 ∧ more > 70368744177664) ∨ (¬ more < 0 ∧ ¬ more > 70368744177664 ∧ far < 0) ∨ (¬ more < 0 ∧ ¬ more > 70368744177664 ∧ ¬ far < 0 ∧ far > 8388608) := by omega
      clear hg hk
      generalize bnd a r = B at *
      go_enter Try.func5, Try.ntmps5
      go_wp2_with fail
      refine (lives_calls _).mono ?_
      rintro e w1 ⟨rfl, b1⟩
      go_wp2_with fail
      refine (Of_is _ _ _ _ O1).mono ?_
      rintro e w2 ⟨rfl, b2⟩
      rcases cs with h | ⟨h, h2⟩ | ⟨h, h2, h3⟩ | ⟨h, h2, h3, h4⟩
      all_goals
        go_wp2_with fail
        go_ret
        exact ⟨rfl, below_trans b1 b2⟩
end Go.Proofs.Ytaiibjbhblpbpaa
