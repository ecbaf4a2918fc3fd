import Derived.Test.YtfedgpcbndbddaaOctetLaws
import Derived.Test.YtfedgpcbndbddaaSized
namespace Go.Proofs.Ytfedgpcbndbddaa
set_option linter.unusedVariables false
set_option linter.unusedSimpArgs false
open Go.RowKit
theorem bytes_of {xs : List Int} (h : ∀ n ∈ xs, (Lit.int .u8 n).wf = true) : Bytes xs := fun x hx => bdU8 (h x hx)
theorem OctetCalls_row (A : Option Addr) (c : Nat) (b : List Int) (x n : Int) (w : World) (h : SlI w .u8 A c b) (hb : ∀ n ∈ b, (Lit.int .u8 n).wf = true) (_hl : b.length * 1 ≤ 140737488351232) (hx : (Lit.int .u64 x).wf = true) (_hn : (Lit.int .i64 n).wf = true) :
    Calls Try.prog 3 #[.slice A b.length c, .int .u64 x, .int .i64 n] w fun e w' => e = .returned (.bool true) ∧ Below w.heap.size w w' :=
  OctetCalls_calls A c b x n w h (bytes_of hb) (bdU64 hx).1 (bdU64 hx).2
end Go.Proofs.Ytfedgpcbndbddaa
