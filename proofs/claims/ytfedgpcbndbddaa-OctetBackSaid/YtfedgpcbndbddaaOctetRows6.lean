import Derived.Test.YtfedgpcbndbddaaOctetBackA
import Derived.Test.YtfedgpcbndbddaaOctetBackB
namespace Go.Proofs.Ytfedgpcbndbddaa
set_option linter.unusedVariables false
set_option linter.unusedSimpArgs false
open Go.RowKit
set_option maxRecDepth 100000 in
theorem OctetBack_row (L : Option Addr) (cl : Nat) (l : List Int) (Z : Option Addr) (cz : Nat) (z : List Int) (w : World) (hL : SlI w .i64 L cl l) (hl : ∀ n ∈ l, (Lit.int .i64 n).wf = true) (_sl : l.length * 8 ≤ 140737488351232) (hZ : SlI w .i64 Z cz z) (_hz : ∀ n ∈ z, (Lit.int .i64 n).wf = true) (_sz : z.length * 8 ≤ 140737488351232) :
    Calls Try.prog 8 #[.slice L l.length cl, .slice Z z.length cz] w fun e w' => e = .returned (.bool true) ∧ Below w.heap.size w w' := by
  have hlen := hL.len
  have hlen2 := hZ.len
  have wl : ∀ x ∈ l, -9223372036854775808 ≤ x ∧ x ≤ 9223372036854775807 := fun x hx => bdI64 (hl x hx)
  by_cases h1 : l.length > 60
  · have i1 : (l.length : Int) > 60 := by omega
    go_enter Try.func8, Try.ntmps8
    go_wp2_with fail
    refine (lives_calls _).mono ?_
    rintro e w1 ⟨rfl, b1⟩
    go_wp2_with fail
    go_ret
    exact ⟨rfl, b1⟩
  · by_cases h2 : z.length > 60
    · have i1 : ¬ (l.length : Int) > 60 := by omega
      have i2 : (z.length : Int) > 60 := by omega
      go_enter Try.func8, Try.ntmps8
      go_wp2_with fail
      refine (lives_calls _).mono ?_
      rintro e w1 ⟨rfl, b1⟩
      go_wp2_with fail
      go_ret
      exact ⟨rfl, b1⟩
    · by_cases h3 : l.length ≤ z.length
      · exact back_a L Z cl cz l z w hL hZ wl (by omega) (by omega) h3
      · exact back_b L Z cl cz l z w hL hZ wl (by omega) (by omega) (by omega)
end Go.Proofs.Ytfedgpcbndbddaa
