import Derived.Test.YtfedgpcbndbddaaOctetLaws2
import Derived.Test.YtfedgpcbndbddaaOctetLaws3
import Derived.Test.YtfedgpcbndbddaaOctetRows
namespace Go.Proofs.Ytfedgpcbndbddaa
set_option linter.unusedVariables false
set_option linter.unusedSimpArgs false
open Go.RowKit
theorem OctetNil_row (n : Int) (w : World) (_hn : (Lit.int .i64 n).wf = true) : Calls Try.prog 7 #[.int .i64 n] w fun e w' => e = .returned (.bool true) ∧ Below w.heap.size w w' := OctetNil_calls n w
theorem OctetNames_row (w : World) : Calls Try.prog 6 #[] w fun e w' => e = .returned (.bool true) ∧ Below w.heap.size w w' := OctetNames_calls w
theorem OctetSplit_row (A : Option Addr) (c : Nat) (b : List Int) (n m : Int) (w : World) (h : SlI w .u8 A c b) (hb : ∀ n ∈ b, (Lit.int .u8 n).wf = true) (_hl : b.length * 1 ≤ 140737488351232) (_hn : (Lit.int .i64 n).wf = true) (_hm : (Lit.int .i64 m).wf = true) :
    Calls Try.prog 5 #[.slice A b.length c, .int .i64 n, .int .i64 m] w fun e w' => e = .returned (.bool true) ∧ Below w.heap.size w w' :=
  OctetSplit_calls A c b n m w h (bytes_of hb)
end Go.Proofs.Ytfedgpcbndbddaa
