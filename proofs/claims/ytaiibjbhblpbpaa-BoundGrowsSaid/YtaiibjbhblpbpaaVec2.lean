import Derived.Test.YtaiibjbhblpbpaaVec1
namespace Go.Proofs.Ytaiibjbhblpbpaa
set_option linter.unusedVariables false
set_option linter.unusedSimpArgs false
open Go.RowKit
def distI (a b : List Int) : Int × Int := if pairE a b = 0 then (dsq a b a.length, 0) else (0, pairE a b)
theorem Dist_calls (A B : Option Addr) (ca cb : Nat) (a b : List Int) (w : World) (ha : SlI w .i32 A ca a) (hb : SlI w .i32 B cb b) :
    Calls Try.prog 27 #[.slice A a.length ca, .slice B b.length cb] w fun e w' => e = .returned (.tuple #[.int .i64 (distI a b).1, .int .i64 (distI a b).2]) ∧ Below w.heap.size w w' := by
  have ma := ha.len
  have P := pair_calls A B ca cb a b w ha hb
  by_cases h0 : pairE a b = 0
  · have H := Lib.hid (show distI a b = (dsq a b a.length, 0) by unfold distI; rw [if_pos h0])
    obtain ⟨c1, c2, c3⟩ := pairE_ok h0
    obtain ⟨l1, l2, va⟩ := ckW_ok c1
    obtain ⟨_, _, vb⟩ := ckW_ok c2
    have VA := Lib.hid va
    have VB := Lib.hid vb
    have C3 := Lib.hid c3
    rw [h0] at P
    clear h0 c1 c2 va vb c3
    go_enter Try.func27, Try.ntmps27
    go_wp2_with fail
    refine P.mono ?_
    rintro e w1 ⟨rfl, b1⟩
    go_wp2_with fail
    go_loopg [7, 8, 9, 10, 19] (a.length + 1) (fun gk s u8 u9 u10 i w' => ∃ j : Nat, i = .int .i64 (j : Int) ∧ s = .int .i64 (dsq a b j) ∧ j ≤ a.length ∧ a.length < j + gk ∧ w' = w1)
    case atStart => exact ⟨0, rfl, rfl, by omega, by omega, rfl⟩
    case round =>
      obtain ⟨j, rfl, rfl, hj, hg, rfl⟩ := hrel
      have hbd := dsq_bd VA.out VB.out j hj (by rw [← C3.out]; exact hj)
      by_cases hlt : j < a.length
      · have j1 : (j : Int) < (a.length : Int) := by omega
        have hltb : j < b.length := by rw [← C3.out]; exact hlt
        have j2 : (j : Int) < (b.length : Int) := by omega
        obtain ⟨aa, rfl, hca⟩ := (ha.below b1).get j hlt
        obtain ⟨ab, rfl, hcb⟩ := (hb.below b1).get j hltb
        have xa := VA.out _ (getD_mem hlt)
        have xb := VB.out _ (getD_mem hltb)
        have hn := dsq_bd VA.out VB.out (j + 1) hlt hltb
        have hs := Lib.hid (show dsq a b (j + 1) = dsq a b j + (a.getD j 0 - b.getD j 0) * (a.getD j 0 - b.getD j 0) from rfl)
        rw [hs.out] at hn
        have q0 : 0 ≤ (a.getD j 0 - b.getD j 0) * (a.getD j 0 - b.getD j 0) := by
          rcases Int.le_total 0 (a.getD j 0 - b.getD j 0) with h | h
          · exact Int.mul_nonneg h h
          · have := Int.mul_nonneg (show 0 ≤ -(a.getD j 0 - b.getD j 0) by omega) (show 0 ≤ -(a.getD j 0 - b.getD j 0) by omega)
            grind
        have q1 : (a.getD j 0 - b.getD j 0) * (a.getD j 0 - b.getD j 0) ≤ 70368744177664 := by omega
        generalize a.getD j 0 = u at *
        generalize b.getD j 0 = v at *
        generalize dsq a b j = S at *
        go_wp2_with fail
        go_roundg (gk - 1)
        case measure => omega
        case rel => exact ⟨j + 1, by simp, by rw [hs.out], by omega, by omega, rfl⟩
      · have j1 : ¬ (j : Int) < (a.length : Int) := by omega
        obtain rfl : j = a.length := by omega
        go_wp2_with fail
        go_ret2
        rw [H.out]; exact ⟨rfl, b1⟩
  · have H := Lib.hid (show distI a b = (0, pairE a b) by unfold distI; rw [if_neg h0])
    generalize pairE a b = ep at *
    have e1 : (ep != 0) = true := by simpa using h0
    clear h0
    go_enter Try.func27, Try.ntmps27
    go_wp2_with fail
    refine P.mono ?_
    rintro e w1 ⟨rfl, b1⟩
    go_wp2_with fail
    go_ret2
    rw [H.out]; exact ⟨rfl, b1⟩
end Go.Proofs.Ytaiibjbhblpbpaa
