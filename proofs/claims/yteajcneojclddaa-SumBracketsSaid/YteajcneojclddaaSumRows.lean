import Derived.Test.YteajcneojclddaaSumLaws
namespace Go.Proofs.Yteajcneojclddaa
set_option linter.unusedVariables false
set_option linter.unusedSimpArgs false
open Go.RowKit
theorem SumBrackets_row (a b c n m : Int) (w : World) (ha : (Lit.int .u32 a).wf = true) (hb : (Lit.int .u32 b).wf = true) (hc : (Lit.int .u32 c).wf = true) (_hn : (Lit.int .i64 n).wf = true) (_hm : (Lit.int .i64 m).wf = true) :
    Calls Try.prog 5 #[.int .u32 a, .int .u32 b, .int .u32 c, .int .i64 n, .int .i64 m] w fun e w' => e = .returned (.bool true) ∧ Below w.heap.size w w' := SumBrackets_calls a b c n m w ha hb hc
end Go.Proofs.Yteajcneojclddaa
