import Derived.Test.YtfedgpcbndbddaaOctetLaws4
import Derived.Test.YtfedgpcbndbddaaOctetRows
namespace Go.Proofs.Ytfedgpcbndbddaa
set_option linter.unusedVariables false
set_option linter.unusedSimpArgs false
open Go.RowKit
theorem OctetOwn_row (A : Option Addr) (c : Nat) (b : List Int) (S : Option Addr) (cs : Nat) (s : List Int) (x n : Int) (w : World) (h : SlI w .u8 A c b) (_hb : ∀ n ∈ b, (Lit.int .u8 n).wf = true) (_hl : b.length * 1 ≤ 140737488351232) (hs : SlI w .u8 S cs s) (_hb2 : ∀ n ∈ s, (Lit.int .u8 n).wf = true) (_hl2 : s.length * 1 ≤ 140737488351232) (_hx : (Lit.int .u64 x).wf = true) (_hn : (Lit.int .i64 n).wf = true) :
    Calls Try.prog 4 #[.slice A b.length c, .slice S s.length cs, .int .u64 x, .int .i64 n] w fun e w' => e = .returned (.bool true) ∧ Below w.heap.size w w' := OctetOwn_calls A S c cs b s x n w h hs
end Go.Proofs.Ytfedgpcbndbddaa
