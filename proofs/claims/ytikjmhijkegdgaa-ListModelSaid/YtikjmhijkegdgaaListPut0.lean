/- A list in memory: Put. -/
import Derived.Test.YtikjmhijkegdgaaListC
namespace Go.Proofs.Ytikjmhijkegdgaa
set_option linter.unusedVariables false
set_option linter.unusedSimpArgs false
open Go.RowKit
/-- An entry that may be put. -/
def okE (parts : Int) (e : En) : Prop := 1 ≤ e.id ∧ (e.code.length : Int) = parts ∧ 0 ≤ e.rad ∧ e.rad ≤ 8388608 ∧ e.dead = false
instance (parts : Int) (e : En) : Decidable (okE parts e) := by unfold okE; infer_instance
theorem LPut_nil (e : En) (B : Option Addr) (d : Nat) (w : World) : Calls Try.prog 13 #[.pointer none, aggE e B d] w fun x w' => x = .returned (.int .i64 1) ∧ Below w.heap.size w w' := by
  unfold aggE
  go_enter Try.func13, Try.ntmps13
  go_wp2_with fail
  go_ret
  exact ⟨rfl, below_box0 _ _⟩
set_option maxHeartbeats 1000000 in
theorem LPut_bad (S : Nat → Prop) (g : Nat) (parts : Int) (es : List En) (e : En) (B : Option Addr) (d : Nat) (w : World) (h : LIST w S g parts es) (hm : e.code.length ≤ 1000000) (hb : ¬ okE parts e) :
    Calls Try.prog 13 #[PtrL g, aggE e B d] w fun x w' => x = .returned (.int .i64 2) ∧ Below w.heap.size w w' := by
  have hmix : Try.prog.follows .mixedOrders = true := by kernel_rfl
  obtain ⟨xs, A, c, bm, rfl, h⟩ := h
  obtain ⟨eid, ecode, erad, edead⟩ := e
  have c0 := h.1.cell 0
  simp only [List.getElem?_cons_zero, List.getElem?_cons_succ] at c0
  have d0 := cell_below (below_box0 w (.cells #[.int .i64 eid, .slice B ecode.length d, .int .i64 erad, .bool edead] 33)) _ _ c0
  have b0 := below_box0 w (.cells #[.int .i64 eid, .slice B ecode.length d, .int .i64 erad, .bool edead] 33)
  clear h c0
  dsimp only at hm
  unfold okE at hb
  dsimp only at hb
  unfold PtrL aggE
  by_cases k1 : eid < 1
  · go_enter Try.func13, Try.ntmps13
    go_wp2_with fail
    go_quiet (fail)
    go_wp2_with fail
    go_ret
    exact ⟨rfl, below_drewN b0 _⟩
  · have k1b : decide (eid < 1) = false := by simpa using k1
    by_cases k2 : (ecode.length : Int) = parts
    · have k2b : ((ecode.length : Int) != parts) = false := by simp [k2]
      have K2 := Lib.hid k2
      clear k2
      by_cases k3 : erad < 0
      · go_enter Try.func13, Try.ntmps13
        go_wp2_with fail
        go_quiet (fail)
        go_wp2_with fail
        go_ret
        exact ⟨rfl, below_drewN b0 _⟩
      · have k3b : decide (erad < 0) = false := by simpa using k3
        by_cases k4 : 8388608 < erad
        · go_enter Try.func13, Try.ntmps13
          go_wp2_with fail
          go_quiet (fail)
          go_wp2_with fail
          go_ret
          exact ⟨rfl, below_drewN b0 _⟩
        · have k4b : decide (8388608 < erad) = false := by simpa using k4
          cases edead with
          | false => exact absurd ⟨by omega, K2.out, by omega, by omega, rfl⟩ hb
          | true =>
            clear hb
            go_enter Try.func13, Try.ntmps13
            go_wp2_with fail
            go_quiet (fail)
            go_wp2_with fail
            go_ret
            exact ⟨rfl, below_drewN b0 _⟩
    · have k2b : ((ecode.length : Int) != parts) = true := by simp [k2]
      clear k2 hb
      go_enter Try.func13, Try.ntmps13
      go_wp2_with fail
      go_quiet (fail)
      go_wp2_with fail
      go_ret
      exact ⟨rfl, below_drewN b0 _⟩
end Go.Proofs.Ytikjmhijkegdgaa
