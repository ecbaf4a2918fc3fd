import Derived.Test.YteblielaojmfbaaRootLaws4
import Derived.OpenShut
namespace Go.Proofs.Yteblielaojmfbaa
open Go.RowKit
/-! The laws' contracts as their rows want them: bounds out of 'wf', the world by 'Below'. -/
theorem bdU64 {n : Int} (h : (Lit.int .u64 n).wf = true) : 0 ≤ n ∧ n ≤ 18446744073709551615 := by simpa [Lit.wf, IntKind.min, IntKind.max, IntKind.signed, IntKind.bits] using h
theorem bdU32 {n : Int} (h : (Lit.int .u32 n).wf = true) : 0 ≤ n ∧ n ≤ 4294967295 := by simpa [Lit.wf, IntKind.min, IntKind.max, IntKind.signed, IntKind.bits] using h
theorem bdI64 {n : Int} (h : (Lit.int .i64 n).wf = true) : -9223372036854775808 ≤ n ∧ n ≤ 9223372036854775807 := by simpa [Lit.wf, IntKind.min, IntKind.max, IntKind.signed, IntKind.bits] using h
theorem same_below {e e' : Ending} {w w' : World} (h : e = e' ∧ w = w') : e = e' ∧ Below w.heap.size w w' := ⟨h.1, h.2 ▸ Below.refl _ _⟩
theorem RootBounds_row (n : Int) (w : World) (h : (Lit.int .u64 n).wf = true) : Calls Try.prog 3 #[.int .u64 n] w fun e w' => e = .returned (.bool true) ∧ Below w.heap.size w w' :=
  (RootBounds_calls n w (bdU64 h).1 (bdU64 h).2).mono fun _ _ => same_below
theorem RootDivs_row (a b : Int) (w : World) (h : (Lit.int .i64 a).wf = true) (k : (Lit.int .u32 b).wf = true) : Calls Try.prog 5 #[.int .i64 a, .int .u32 b] w fun e w' => e = .returned (.bool true) ∧ Below w.heap.size w w' :=
  (RootDivs_calls a b w (bdI64 h).1 (bdI64 h).2 (bdU32 k).1 (bdU32 k).2).mono fun _ _ => same_below
theorem RootSquares_row (n a b : Int) (w : World) (h : (Lit.int .u32 n).wf = true) (k : (Lit.int .u64 a).wf = true) (l : (Lit.int .u64 b).wf = true) : Calls Try.prog 6 #[.int .u32 n, .int .u64 a, .int .u64 b] w fun e w' => e = .returned (.bool true) ∧ Below w.heap.size w w' :=
  (RootSquares_calls n a b w (bdU32 h).1 (bdU32 h).2 (bdU64 k).1 (bdU64 k).2 (bdU64 l).1 (bdU64 l).2).mono fun _ _ => same_below
theorem RootMuls_row (a b : Int) (w : World) (k : (Lit.int .u64 a).wf = true) (l : (Lit.int .u64 b).wf = true) : Calls Try.prog 7 #[.int .u64 a, .int .u64 b] w fun e w' => e = .returned (.bool true) ∧ Below w.heap.size w w' :=
  (RootMuls_calls a b w (bdU64 k).1 (bdU64 k).2 (bdU64 l).1 (bdU64 l).2).mono fun _ _ => same_below
theorem RootNames_row (w : World) : Calls Try.prog 8 #[] w fun e w' => e = .returned (.bool true) ∧ Below w.heap.size w w' :=
  (RootNames_calls w).mono fun _ _ => same_below
theorem RootCalls_row (a b c d : Int) (w : World) (h : (Lit.int .u64 a).wf = true) (k : (Lit.int .u64 b).wf = true) (l : (Lit.int .i64 c).wf = true) (m : (Lit.int .i64 d).wf = true) :
    Calls Try.prog 9 #[.int .u64 a, .int .u64 b, .int .i64 c, .int .i64 d] w fun e w' => e = .returned (.bool true) ∧ Below w.heap.size w w' :=
  (RootCalls_calls a b c d w (bdU64 h).1 (bdU64 h).2 (bdU64 k).1 (bdU64 k).2 (bdI64 l).1 (bdI64 l).2 (bdI64 m).2).mono fun _ _ => same_below
end Go.Proofs.Yteblielaojmfbaa
