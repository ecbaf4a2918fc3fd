/- slices.Clone, slices.Equal of whole numbers. -/
import Derived.Test.YtcmdjnllpcnpjaaDoorMem
import Derived.Test.YtcmdjnllpcnpjaaDoorLit
import Derived.Test.YtcmdjnllpcnpjaaDoorKit
import Derived.RangeFuncNested
import Derived.WalkSpells
import Derived.Lib.SliceRun
namespace Go.Proofs.YtcmdjnllpcnpjaaDoor
set_option linter.unusedVariables false
set_option linter.unusedSimpArgs false
open Go.RowKit
theorem Clone_int16_calls (A : Option Addr) (c : Nat) (xs : List Int) (w : World) (h : SlI w .i16 A c xs) (hl : xs.length * 2 ≤ 140737488355328) :
    Calls Tryd.prog 34 #[.slice A xs.length c] w fun e w' => ∃ A' c', e = .returned (.slice A' xs.length c') ∧ OwnI w' w.heap.size 31 .i16 A' c' xs ∧ Below w.heap.size w w' := by
  have qT := fun (w : World) (a : Option Addr) (n c : Nat) => Lib.run_eql_slice_nil (P := Tryd.prog) w 32 31 a n c 0 0 Tryd.underlying32
  cases A with
  | none =>
    have hx : xs = [] := by
      rcases h.rd with h1 | ⟨ad, h1, _⟩
      · exact List.map_eq_nil_iff.1 h1
      · cases h1
    subst hx
    go_enter Tryd.func34, Tryd.ntmps34
    go_wp2
    go_ret
    exact ⟨none, 0, rfl, own_nil _ _ _ _, Below.refl _ _⟩
  | some ad =>
    go_enter Tryd.func34, Tryd.ntmps34
    go_wp2_with (at_builtin; refine app_row w.heap.size rfl _ _ 32 31 .i16 2 rfl Tryd.underlying32 (by kernel_rfl) (by decide) _ _ [] xs (some ad) c rfl rfl (own_empty _ _ _ (Nat.le_refl _)) (h.below (below_alloc (Below.refl _ _) _)).rd (by simp) (by simpa using hl) ?_)
    intro B1 c1 w1 hown hg _ _
    go_wp2
    go_ret
    exact ⟨_, _, rfl, hown, below_grown (below_alloc (Below.refl _ _) _) hg (own_empty _ _ _ (Nat.le_refl _)) (Nat.le_refl _)⟩
theorem Clone_int_calls (A : Option Addr) (c : Nat) (xs : List Int) (w : World) (h : SlI w .i64 A c xs) (hl : xs.length * 8 ≤ 140737488355328) :
    Calls Tryd.prog 35 #[.slice A xs.length c] w fun e w' => ∃ A' c', e = .returned (.slice A' xs.length c') ∧ OwnI w' w.heap.size 3 .i64 A' c' xs ∧ Below w.heap.size w w' := by
  have qT := fun (w : World) (a : Option Addr) (n c : Nat) => Lib.run_eql_slice_nil (P := Tryd.prog) w 22 3 a n c 0 0 Tryd.underlying22
  cases A with
  | none =>
    have hx : xs = [] := by
      rcases h.rd with h1 | ⟨ad, h1, _⟩
      · exact List.map_eq_nil_iff.1 h1
      · cases h1
    subst hx
    go_enter Tryd.func35, Tryd.ntmps35
    go_wp2
    go_ret
    exact ⟨none, 0, rfl, own_nil _ _ _ _, Below.refl _ _⟩
  | some ad =>
    go_enter Tryd.func35, Tryd.ntmps35
    go_wp2_with (at_builtin; refine app_row w.heap.size rfl _ _ 22 3 .i64 8 rfl Tryd.underlying22 (by kernel_rfl) (by decide) _ _ [] xs (some ad) c rfl rfl (own_empty _ _ _ (Nat.le_refl _)) (h.below (below_alloc (Below.refl _ _) _)).rd (by simp) (by simpa using hl) ?_)
    intro B1 c1 w1 hown hg _ _
    go_wp2
    go_ret
    exact ⟨_, _, rfl, hown, below_grown (below_alloc (Below.refl _ _) _) hg (own_empty _ _ _ (Nat.le_refl _)) (Nat.le_refl _)⟩
theorem Clone_uint64_calls (A : Option Addr) (c : Nat) (xs : List Int) (w : World) (h : SlI w .u64 A c xs) (hl : xs.length * 8 ≤ 140737488355328) :
    Calls Tryd.prog 37 #[.slice A xs.length c] w fun e w' => ∃ A' c', e = .returned (.slice A' xs.length c') ∧ OwnI w' w.heap.size 63 .u64 A' c' xs ∧ Below w.heap.size w w' := by
  have qT := fun (w : World) (a : Option Addr) (n c : Nat) => Lib.run_eql_slice_nil (P := Tryd.prog) w 59 63 a n c 0 0 Tryd.underlying59
  cases A with
  | none =>
    have hx : xs = [] := by
      rcases h.rd with h1 | ⟨ad, h1, _⟩
      · exact List.map_eq_nil_iff.1 h1
      · cases h1
    subst hx
    go_enter Tryd.func37, Tryd.ntmps37
    go_wp2
    go_ret
    exact ⟨none, 0, rfl, own_nil _ _ _ _, Below.refl _ _⟩
  | some ad =>
    go_enter Tryd.func37, Tryd.ntmps37
    go_wp2_with (at_builtin; refine app_row w.heap.size rfl _ _ 59 63 .u64 8 rfl Tryd.underlying59 (by kernel_rfl) (by decide) _ _ [] xs (some ad) c rfl rfl (own_empty _ _ _ (Nat.le_refl _)) (h.below (below_alloc (Below.refl _ _) _)).rd (by simp) (by simpa using hl) ?_)
    intro B1 c1 w1 hown hg _ _
    go_wp2
    go_ret
    exact ⟨_, _, rfl, hown, below_grown (below_alloc (Below.refl _ _) _) hg (own_empty _ _ _ (Nat.le_refl _)) (Nat.le_refl _)⟩
end Go.Proofs.YtcmdjnllpcnpjaaDoor
