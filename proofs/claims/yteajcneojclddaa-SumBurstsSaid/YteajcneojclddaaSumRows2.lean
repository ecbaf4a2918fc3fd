import Derived.Test.YteajcneojclddaaSumLaws2
namespace Go.Proofs.Yteajcneojclddaa
set_option linter.unusedVariables false
set_option linter.unusedSimpArgs false
open Go.RowKit
theorem SumBursts_row (A : Option Addr) (c : Nat) (b : List Int) (n m : Int) (w : World) (h : SlI w .u8 A c b) (hb : ∀ n ∈ b, (Lit.int .u8 n).wf = true) (_hl : b.length * 1 ≤ 140737488351232) (_hn : (Lit.int .i64 n).wf = true) (hm : (Lit.int .u32 m).wf = true) :
    Calls Try.prog 3 #[.slice A b.length c, .int .i64 n, .int .u32 m] w fun e w' => e = .returned (.bool true) ∧ Below w.heap.size w w' := SumBursts_calls A c b n m w h (fun x hx => bdU8 (hb x hx)) hm
end Go.Proofs.Yteajcneojclddaa
