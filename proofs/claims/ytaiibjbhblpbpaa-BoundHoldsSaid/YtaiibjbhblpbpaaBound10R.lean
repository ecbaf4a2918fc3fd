import Derived.Test.YtaiibjbhblpbpaaBound10
import Derived.Test.YtaiibjbhblpbpaaSized
namespace Go.Proofs.Ytaiibjbhblpbpaa
set_option linter.unusedVariables false
set_option linter.unusedSimpArgs false
open Go.RowKit
set_option maxHeartbeats 1000000 in
set_option maxRecDepth 100000 in
theorem BoundHolds_row (X : Option Addr) (cx : Nat) (x : List Int) (H : Option Addr) (ch : Nat) (h : List Int) (Q : Option Addr) (cq : Nat) (q : List Int) (w : World) (hx : SlI w .i32 X cx x) (_fx : ∀ n ∈ x, (Lit.int .i32 n).wf = true) (_sx : x.length * 4 ≤ 140737488351232) (hh : SlI w .i32 H ch h) (_fh : ∀ n ∈ h, (Lit.int .i32 n).wf = true) (_sh : h.length * 4 ≤ 140737488351232) (hq : SlI w .i32 Q cq q) (_fq : ∀ n ∈ q, (Lit.int .i32 n).wf = true) (_sq : q.length * 4 ≤ 140737488351232) :
    Calls Try.prog 4 #[.slice X x.length cx, .slice H h.length ch, .slice Q q.length cq] w fun e w' => e = .returned (.bool true) ∧ Below w.heap.size w w' := by
  have hm := hx.len
  have hm2 := hh.len
  have hm3 := hq.len
  have C1 := fun w (h1 : SlI w .i32 X cx x) => RCheckWide_calls X cx x w h1
  have C2 := fun w (h1 : SlI w .i32 H ch h) => RCheckWide_calls H ch h w h1
  have C3 := fun w (h1 : SlI w .i32 Q cq q) => RCheckWide_calls Q cq q w h1
  by_cases k1 : ckW x = 0
  · by_cases k2 : ckW h = 0
    · by_cases k3 : ckW q = 0
      · by_cases l1 : x.length = h.length
        · by_cases l2 : x.length = q.length
          · exact holds_core X H Q cx ch cq x h q w hx hh hq k1 k2 k3 l1 l2
          · rw [k1] at C1
            rw [k2] at C2
            rw [k3] at C3
            have i1 : ((x.length : Int) != (h.length : Int)) = false := by simp [l1]
            have i2 : ((x.length : Int) != (q.length : Int)) = true := by simp; omega
            clear k1 k2 k3 l1 l2
            go_enter Try.func4, Try.ntmps4
            go_wp2_with fail
            refine (lives_calls _).mono ?_
            rintro e w1 ⟨rfl, b1⟩
            go_wp2_with fail
            refine (C1 _ (hx.below b1)).mono ?_
            rintro e w2 ⟨rfl, b2⟩
            have b02 := below_trans b1 b2
            clear b1 b2
            go_wp2_with fail
            refine (C2 _ (hh.below b02)).mono ?_
            rintro e w3 ⟨rfl, b3⟩
            have b03 := below_trans b02 b3
            clear b02 b3
            go_wp2_with fail
            refine (C3 _ (hq.below b03)).mono ?_
            rintro e w4 ⟨rfl, b4⟩
            go_wp2_with fail
            go_ret
            exact ⟨rfl, below_trans b03 b4⟩
        · rw [k1] at C1
          rw [k2] at C2
          rw [k3] at C3
          have i1 : ((x.length : Int) != (h.length : Int)) = true := by simp; omega
          clear k1 k2 k3 l1
          go_enter Try.func4, Try.ntmps4
          go_wp2_with fail
          refine (lives_calls _).mono ?_
          rintro e w1 ⟨rfl, b1⟩
          go_wp2_with fail
          refine (C1 _ (hx.below b1)).mono ?_
          rintro e w2 ⟨rfl, b2⟩
          have b02 := below_trans b1 b2
          clear b1 b2
          go_wp2_with fail
          refine (C2 _ (hh.below b02)).mono ?_
          rintro e w3 ⟨rfl, b3⟩
          have b03 := below_trans b02 b3
          clear b02 b3
          go_wp2_with fail
          refine (C3 _ (hq.below b03)).mono ?_
          rintro e w4 ⟨rfl, b4⟩
          go_wp2_with fail
          go_ret
          exact ⟨rfl, below_trans b03 b4⟩
      · rw [k1] at C1
        rw [k2] at C2
        generalize ckW q = eq at *
        have e1 : (eq != 0) = true := by simpa using k3
        clear k1 k2 k3
        go_enter Try.func4, Try.ntmps4
        go_wp2_with fail
        refine (lives_calls _).mono ?_
        rintro e w1 ⟨rfl, b1⟩
        go_wp2_with fail
        refine (C1 _ (hx.below b1)).mono ?_
        rintro e w2 ⟨rfl, b2⟩
        have b02 := below_trans b1 b2
        clear b1 b2
        go_wp2_with fail
        refine (C2 _ (hh.below b02)).mono ?_
        rintro e w3 ⟨rfl, b3⟩
        have b03 := below_trans b02 b3
        clear b02 b3
        go_wp2_with fail
        refine (C3 _ (hq.below b03)).mono ?_
        rintro e w4 ⟨rfl, b4⟩
        go_wp2_with fail
        go_ret
        exact ⟨rfl, below_trans b03 b4⟩
    · rw [k1] at C1
      generalize ckW h = eh at *
      have e1 : (eh != 0) = true := by simpa using k2
      clear k1 k2
      go_enter Try.func4, Try.ntmps4
      go_wp2_with fail
      refine (lives_calls _).mono ?_
      rintro e w1 ⟨rfl, b1⟩
      go_wp2_with fail
      refine (C1 _ (hx.below b1)).mono ?_
      rintro e w2 ⟨rfl, b2⟩
      have b02 := below_trans b1 b2
      clear b1 b2
      go_wp2_with fail
      refine (C2 _ (hh.below b02)).mono ?_
      rintro e w3 ⟨rfl, b3⟩
      go_wp2_with fail
      go_ret
      exact ⟨rfl, below_trans b02 b3⟩
  · generalize ckW x = ex at *
    have e1 : (ex != 0) = true := by simpa using k1
    clear k1
    go_enter Try.func4, Try.ntmps4
    go_wp2_with fail
    refine (lives_calls _).mono ?_
    rintro e w1 ⟨rfl, b1⟩
    go_wp2_with fail
    refine (C1 _ (hx.below b1)).mono ?_
    rintro e w2 ⟨rfl, b2⟩
    go_wp2_with fail
    go_ret
    exact ⟨rfl, below_trans b1 b2⟩
end Go.Proofs.Ytaiibjbhblpbpaa
