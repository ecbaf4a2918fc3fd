import Derived.Test.YteajcneojclddaaSum1
namespace Go.Proofs.Yteajcneojclddaa
set_option linter.unusedVariables false
set_option linter.unusedSimpArgs false
open Go.RowKit
theorem Of_calls (A : Option Addr) (c : Nat) (b : List Int) (w : World) (h : SlI w .u8 A c b) (hb : Bytes b) :
    Calls Try.prog 12 #[.slice A b.length c] w fun e w' => e = .returned (.int .u32 (uv (more 0#32 b))) ∧ Below w.heap.size w w' := by
  have h0 : uv 0#32 = 0 := by decide
  have hc := h0 ▸ More_calls A c b 0#32 w h hb
  go_enter Try.func12, Try.ntmps12
  go_wp2_with fail
  refine hc.mono ?_
  rintro e w1 ⟨rfl, b1⟩
  go_wp2_with fail
  go_ret
  exact ⟨rfl, b1⟩
/-- A matrix: e bytes of noughts. -/
def mat (e : Nat) : List Int := (List.range 32).map fun i => uv (TN e (1#32 <<< i))
theorem mat_len (e : Nat) : (mat e).length = 32 := by simp [mat]
theorem mat_get (e : Nat) {k : Nat} (h : k < 32) : (mat e).getD k 0 = uv (TN e (1#32 <<< k)) := by
  simp [mat, List.getD_eq_getElem?_getD, h]
theorem uv_bitk (a : BitVec 32) (k : Nat) : (bits .and .u32 (uv a / 2 ^ k) 1 == 1) = a.getLsbD k := by
  rw [uv_shr, uv_odd, BitVec.getLsbD_ushiftRight]; rfl
theorem times_calls (g : Nat) (e : Nat) (s : BitVec 32) (w : World) (ha : Arr w g 42 (mat e)) :
    Calls Try.prog 26 #[.pointer (some ⟨g, 0, none⟩), .int .u32 (uv s)] w fun en w' => en = .returned (.int .u32 (uv (TN e s))) ∧ Below w.heap.size w w' := by
  have h0 := Lib.hid (show uv (TN e (low 0 s)) = 0 by rw [low_zero, TN_zero]; decide)
  have hM := Lib.hid (fun k (h : k < 32) => mat_get e h)
  have hL := Lib.hid (mat_len e)
  generalize mat e = M at *
  go_enter Try.func26, Try.ntmps26
  go_wp2_with fail
  go_loopg [4, 5, 6, 8] 33 (fun gk o u5 u6 i w' => ∃ j : Nat, i = .int .i64 (j : Int) ∧ o = .int .u32 (uv (TN e (low j s))) ∧ j ≤ 32 ∧ 32 < j + gk ∧ Below w.heap.size w w')
  case atStart => exact ⟨0, rfl, by rw [h0.out], by omega, by omega, Below.refl _ _⟩
  case round =>
    obtain ⟨j, rfl, rfl, hj, hg, hb⟩ := hrel
    by_cases hlt : j < 32
    · have hjl : (j : Int) < 32 := by omega
      have ha2 := ha.below hb
      have hc := ha2.cell j (by rw [hL.out]; exact hlt)
      rw [hM.out j hlt] at hc
      go_wp2_with fail
      go_quiet (fail)
      have hbit := uv_bitk s j
      have hlow := TN_low e j s
      have hx := uv_xor (TN e (low j s)) (TN e (1#32 <<< j))
      cases hbv : s.getLsbD j with
      | true =>
        rw [hbv] at hbit hlow
        have hlow := Lib.hid hlow
        clear hbv
        go_wp2
        go_roundg (gk - 1)
        case measure => omega
        case rel => exact ⟨j + 1, by simp, by rw [hlow.out]; rfl, by omega, by omega, below_trans hb (below_drewN (Below.refl _ _) _)⟩
      | false =>
        rw [hbv] at hbit hlow
        have hlow := Lib.hid hlow
        clear hbv hx
        go_wp2
        go_roundg (gk - 1)
        case measure => omega
        case rel => exact ⟨j + 1, by simp, by rw [hlow.out]; rfl, by omega, by omega, below_trans hb (below_drewN (Below.refl _ _) _)⟩
    · have hjl : ¬ (j : Int) < 32 := by omega
      have hj2 : j = 32 := by omega
      go_wp2_with fail
      go_ret
      exact ⟨by rw [low_all s]; rfl, hb⟩
end Go.Proofs.Yteajcneojclddaa
