import Derived.Test.YteajcneojclddaaSumLaws3
namespace Go.Proofs.Yteajcneojclddaa
set_option linter.unusedVariables false
set_option linter.unusedSimpArgs false
open Go.RowKit
theorem SumLinear_row (A : Option Addr) (ca : Nat) (a : List Int) (B : Option Addr) (cb : Nat) (b : List Int) (C : Option Addr) (cc : Nat) (c : List Int) (w : World) (ha : SlI w .u8 A ca a) (fa : ∀ n ∈ a, (Lit.int .u8 n).wf = true) (_ya : a.length * 1 ≤ 140737488351232) (hb : SlI w .u8 B cb b) (fb : ∀ n ∈ b, (Lit.int .u8 n).wf = true) (_yb : b.length * 1 ≤ 140737488351232) (hc : SlI w .u8 C cc c) (fc : ∀ n ∈ c, (Lit.int .u8 n).wf = true) (_yc : c.length * 1 ≤ 140737488351232) :
    Calls Try.prog 4 #[.slice A a.length ca, .slice B b.length cb, .slice C c.length cc] w fun e w' => e = .returned (.bool true) ∧ Below w.heap.size w w' :=
  SumLinear_calls A B C ca cb cc a b c w ha hb hc (fun x hx => bdU8 (fa x hx)) (fun x hx => bdU8 (fb x hx)) (fun x hx => bdU8 (fc x hx))
end Go.Proofs.Yteajcneojclddaa
