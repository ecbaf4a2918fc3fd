import Derived.Test.YtaiibjbhblpbpaaRootWalk0
namespace Go.Proofs.Ytaiibjbhblpbpaa
set_option linter.unusedVariables false
set_option linter.unusedSimpArgs false
open Go.RowKit
theorem ret2_int {k k' : IntKind} {a b : Int} {q : Int × Int} (h : (a, b) = q) : Ending.returned (.tuple #[.int k a, .int k' b]) = .returned (.tuple #[.int k q.1, .int k' q.2]) := by rw [← h]
theorem wrap64_id {x : Int} (h0 : -9223372036854775808 ≤ x) (h1 : x ≤ 9223372036854775807) : wrap64 x = x := by unfold wrap64; omega
theorem Ceil_calls (n : Int) (w : World) (h0 : 0 ≤ n) (h1 : n ≤ 18446744073709551615) :
    Calls Try.prog 32 #[.int .u64 n] w fun e w' => e = .returned (.int .u64 (cel n)) ∧ w = w' := by
  have hf := flr_lt h0 h1
  obtain ⟨k0, k1, k2⟩ := flr_spec h0
  have k3 : 0 ≤ flr n * flr n := Int.mul_nonneg k0 k0
  by_cases h : flr n * flr n = n
  · have hb : (flr n * flr n == n) = true := beq_iff_eq.2 h
    have H := Lib.hid h
    clear h
    go_enter Try.func32, Try.ntmps32
    go_wp2_with (go_at_call 35; refine (Floor_calls _ _ h0 h1).mono ?_; rintro e w' ⟨rfl, rfl⟩)
    go_ret
    exact ⟨ret_int (by rw [cel, if_pos H.out]), rfl⟩
  · have hb : (flr n * flr n == n) = false := beq_eq_false_iff_ne.2 h
    have H := Lib.hid h
    clear h
    go_enter Try.func32, Try.ntmps32
    go_wp2_with (go_at_call 35; refine (Floor_calls _ _ h0 h1).mono ?_; rintro e w' ⟨rfl, rfl⟩)
    go_ret
    exact ⟨ret_int (by rw [cel, if_neg H.out]), rfl⟩
end Go.Proofs.Ytaiibjbhblpbpaa
