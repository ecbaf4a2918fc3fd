/- CmdL: the law's light. -/
import Derived.Test.YtjdablkdndmcgaaCmdS
namespace Go.Proofs.Ytjdablkdndmcgaa
set_option linter.unusedVariables false
set_option linter.unusedSimpArgs false
open Go.RowKit
theorem clight_calls (x : Cm) (A : Option Addr) (a : Nat) (B : Option Addr) (b : Nat) (w : World) :
    Calls Try.prog 14 #[.agg (cmC x A a B b).toArray] w fun e w' => e = .returned (.bool (decide (x.v.length ≤ 10000 ∧ x.d.length ≤ 10000))) ∧ Below w.heap.size w w' := by
  have b1 : ∀ o, Below w.heap.size w (w.alloc o) := fun o => below_alloc (Below.refl _ _) _
  have B1 := Lib.hid b1
  clear b1
  obtain ⟨op, id, v, k, p, d⟩ := x
  unfold cmC
  dsimp only
  by_cases h1 : v.length ≤ 10000
  case neg =>
    rw [decide_eq_false (fun hh => h1 hh.1)]
    have i1 : ¬ (v.length : Int) ≤ 10000 := by omega
    go_enter Try.func14, Try.ntmps14
    go_wp2_with fail
    go_ret
    exact ⟨rfl, B1.out _⟩
  by_cases h2 : d.length ≤ 10000
  case neg =>
    rw [decide_eq_false (fun hh => h2 hh.2)]
    have i1 : (v.length : Int) ≤ 10000 := by omega
    have i2 : ¬ (d.length : Int) ≤ 10000 := by omega
    go_enter Try.func14, Try.ntmps14
    go_wp2_with fail
    go_ret
    exact ⟨rfl, B1.out _⟩
  rw [decide_eq_true (And.intro h1 h2)]
  have i1 : (v.length : Int) ≤ 10000 := by omega
  have i2 : (d.length : Int) ≤ 10000 := by omega
  go_enter Try.func14, Try.ntmps14
  go_wp2_with fail
  go_ret
  exact ⟨rfl, B1.out _⟩
end Go.Proofs.Ytjdablkdndmcgaa
