/- ListNil. -/
import Derived.Test.YtikjmhijkegdgaaListNames
import Derived.Test.YtikjmhijkegdgaaSizedE
namespace Go.Proofs.Ytikjmhijkegdgaa
set_option linter.unusedVariables false
set_option linter.unusedSimpArgs false
open Go.RowKit
set_option maxHeartbeats 2000000 in
set_option maxRecDepth 100000 in
theorem ListNil_calls (A : Option Addr) (c : Nat) (q : En) (w : World) (h : EntOk w ⟨q, A, c⟩) : Calls Try.prog 7 #[aggE q A c] w fun e w' => e = .returned (.bool true) ∧ Below w.heap.size w w' := by
  have nine : noE = ⟨0, [], 0, false⟩ := rfl
  unfold aggE
  go_enter Try.func7, Try.ntmps7
  have bt := below_box0 w (.cells #[.int .i64 q.id, .slice A q.code.length c, .int .i64 q.rad, .bool q.dead] 33)
  have k0 := Blk.new w 33 [.int .i64 q.id, .slice A q.code.length c, .int .i64 q.rad, .bool q.dead]
  go_wp2_with fail
  refine (lives_calls _).mono ?_
  rintro e w0 ⟨rfl, b0⟩
  replace k0 := k0.below b0
  replace bt := below_trans bt b0
  clear b0
  go_wp2_with fail
  refine (New_calls 1 _ (by decide) (by decide)).mono ?_
  rintro e w1 ⟨g, rfl, L, b1, hg⟩
  replace k0 := k0.below b1
  replace bt := below_trans bt b1
  clear b1 L hg
  have g0 := k0.cell 0
  have g1 := k0.cell 1
  have g2 := k0.cell 2
  have g3 := k0.cell 3
  simp only [List.getElem?_cons_zero, List.getElem?_cons_succ] at g0 g1 g2 g3
  go_wp2_with fail
  refine (Get_nil q.id _).mono ?_
  rintro e w2 ⟨rfl, b2⟩
  unfold aggE
  dsimp only [noE]
  have b3 := below_box0 w2 (.cells #[.int .i64 0, .slice none 0 0, .int .i64 0, .bool false] 33)
  replace k0 := (k0.below b2).below b3
  replace bt := below_trans (below_trans bt b2) b3
  clear b2 b3
  clear g0 g1 g2 g3
  have g0 := k0.cell 0
  have g1 := k0.cell 1
  have g2 := k0.cell 2
  have g3 := k0.cell 3
  simp only [List.getElem?_cons_zero, List.getElem?_cons_succ] at g0 g1 g2 g3
  go_wp2_with fail
  refine (LPut_nil q A c _).mono ?_
  rintro e w4 ⟨rfl, b4⟩
  replace k0 := k0.below b4
  replace bt := below_trans bt b4
  clear b4 g0 g1 g2 g3
  have g0 := k0.cell 0
  simp only [List.getElem?_cons_zero] at g0
  go_wp2_with fail
  refine (LKill_nil q.id _).mono ?_
  rintro e _ ⟨rfl, rfl⟩
  go_wp2_with fail
  refine (Has_nil q.id _).mono ?_
  rintro e _ ⟨rfl, rfl⟩
  go_wp2_with fail
  refine (Live_nil _).mono ?_
  rintro e w5 ⟨rfl, b5⟩
  replace bt := below_trans bt b5
  clear b5 g0 k0
  go_wp2_with fail
  refine (All_nil _).mono ?_
  rintro e _ ⟨rfl, rfl⟩
  go_wp2_with fail
  refine (Count_nil _).mono ?_
  rintro e _ ⟨rfl, rfl⟩
  go_wp2_with fail
  refine (Stored_nil _).mono ?_
  rintro e _ ⟨rfl, rfl⟩
  go_wp2_with fail
  refine (Dead_nil _).mono ?_
  rintro e _ ⟨rfl, rfl⟩
  go_wp2_with fail
  refine (LCompact_nil _).mono ?_
  rintro e _ ⟨rfl, rfl⟩
  go_wp2_with fail
  refine (LClone_nil _).mono ?_
  rintro e _ ⟨rfl, rfl⟩
  go_wp2_with fail
  refine (LSame_nils _).mono ?_
  rintro e _ ⟨rfl, rfl⟩
  go_wp2_with fail
  refine (LSame_nil1 g _).mono ?_
  rintro e _ ⟨rfl, rfl⟩
  go_wp2_with fail
  refine (LSame_nil2 g _).mono ?_
  rintro e _ ⟨rfl, rfl⟩
  go_wp2_with fail
  go_ret
  exact ⟨rfl, bt⟩
end Go.Proofs.Ytikjmhijkegdgaa
