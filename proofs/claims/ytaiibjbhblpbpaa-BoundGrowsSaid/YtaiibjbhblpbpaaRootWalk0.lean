import Derived.Test.YtaiibjbhblpbpaaProg
import Derived.Test.YtaiibjbhblpbpaaShelf
import Derived.Test.YtaiibjbhblpbpaaRootMath
import Derived.WalkKit
import Derived.IntWalk
import Derived.KernelRfl
import Derived.Deep.QuietTactic
import Derived.BigQuiet
import Derived.Deep.DeepCutAuto
import Derived.Deep.CutBlock
import Derived.Deep.LoopGhost
import Derived.Lib.Hide
import Derived.Outline
namespace Go.Proofs.Ytaiibjbhblpbpaa
set_option linter.unusedVariables false
set_option linter.unusedSimpArgs false
open Go.RowKit
theorem ret_int {k : IntKind} {a b : Int} (h : a = b) : Ending.returned (.int k a) = .returned (.int k b) := by rw [h]
theorem Len_calls (n : Int) (w : World) (h0 : 0 ≤ n) (h1 : n ≤ 18446744073709551615) :
    Calls Try.prog 38 #[.int .u64 n] w fun e w' => ∃ L : Int, 0 ≤ L ∧ L ≤ 64 ∧ Hid (n < 2 ^ L.toNat) ∧ e = .returned (.int .i64 L) ∧ w = w' := by
  obtain ⟨a, b⟩ := bitLenI_spec h0 h1
  exact (Try.bits_Len64 n w h0 h1).mono fun e w' ⟨he, hw⟩ => ⟨_, by omega, by omega, by rw [Int.toNat_natCast]; exact a, he, hw.symm⟩
set_option maxHeartbeats 400000 in
theorem Floor_calls (n : Int) (w : World) (h0 : 0 ≤ n) (h1 : n ≤ 18446744073709551615) :
    Calls Try.prog 35 #[.int .u64 n] w fun e w' => e = .returned (.int .u64 (flr n)) ∧ w = w' := by
  by_cases hn : n < 2
  · go_enter Try.func35, Try.ntmps35
    go_wp2
    go_ret
    exact ⟨ret_int (by have : n = 0 ∨ n = 1 := by omega
                       rcases this with rfl | rfl <;> decide), rfl⟩
  · have hf := flr_lt h0 h1
    have hp := flr_pos (n := n) (by omega)
    go_enter Try.func35, Try.ntmps35
    go_wp2_with (go_at_call 38; refine (Len_calls _ _ h0 h1).mono ?_; rintro e w' ⟨L, hL0, hL1, hL2, rfl, rfl⟩)
    all_goals
      have hst := start_ge h0 hL0 hL1 hL2.out
      go_loopg [3] 4294967296 (fun k r w' => ∃ x : Int, r = .int .u64 x ∧ flr n ≤ x ∧ 1 ≤ x ∧ x ≤ 4294967295 ∧ x < k ∧ w = w')
      case atStart => exact ⟨_, rfl, by omega, by omega, by omega, by omega, rfl⟩
      case round =>
        obtain ⟨x, rfl, hx1, hx2, hx3, hk, rfl⟩ := hrel
        clear hst hL0 hL1 hL2
        by_cases hgt : n / x < x
        · have hN := newton h0 hx2 hx1 hgt
          have hq : 0 ≤ n / x := Int.ediv_nonneg h0 (by omega)
          go_wp2
          go_roundg ((n / x + x) / 2 + 1).toNat
          case measure => omega
          case rel => exact ⟨_, rfl, by omega, by omega, by omega, by omega, rfl⟩
        · have hN := flr_of_le h0 hx2 hx1 (by omega)
          have hq : 0 ≤ n / x := Int.ediv_nonneg h0 (by omega)
          have H := Lib.hid hN
          clear hN
          go_wp2
          go_ret
          exact ⟨ret_int H.out, rfl⟩
end Go.Proofs.Ytaiibjbhblpbpaa
