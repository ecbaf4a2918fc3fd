/- CmdA: command's fields, has, Updates; the reference's hasID, hasVec, hasK, Updates. -/
import Derived.Test.YtjdablkdndmcgaaKit
namespace Go.Proofs.Ytjdablkdndmcgaa
set_option linter.unusedVariables false
set_option linter.unusedSimpArgs false
open Go.RowKit
/-- What an op has, as bits: 1 an id, 2 a vector, 4 K and Probe, 8 draws. -/
def fieldsN (op : Int) : Int :=
  if op = 1 then 3 else if op = 2 ∨ op = 3 ∨ op = 5 then 1 else if op = 6 ∨ op = 7 then 6 else if op = 8 then 8 else 0
theorem fields_calls (op : Int) (w : World) :
    Calls Try.prog 56 #[.int .i64 op] w fun e w' => e = .returned (.int .u64 (fieldsN op)) ∧ w' = w := by
  by_cases h1 : op = 1
  · subst h1
    go_enter Try.func56, Try.ntmps56
    go_wp2_with fail
    go_ret
    exact ⟨rfl, rfl⟩
  by_cases h2 : op = 2
  · subst h2
    go_enter Try.func56, Try.ntmps56
    go_wp2_with fail
    go_ret
    exact ⟨rfl, rfl⟩
  by_cases h3 : op = 3
  · subst h3
    go_enter Try.func56, Try.ntmps56
    go_wp2_with fail
    go_ret
    exact ⟨rfl, rfl⟩
  by_cases h5 : op = 5
  · subst h5
    go_enter Try.func56, Try.ntmps56
    go_wp2_with fail
    go_ret
    exact ⟨rfl, rfl⟩
  by_cases h6 : op = 6
  · subst h6
    go_enter Try.func56, Try.ntmps56
    go_wp2_with fail
    go_ret
    exact ⟨rfl, rfl⟩
  by_cases h7 : op = 7
  · subst h7
    go_enter Try.func56, Try.ntmps56
    go_wp2_with fail
    go_ret
    exact ⟨rfl, rfl⟩
  by_cases h8 : op = 8
  · subst h8
    go_enter Try.func56, Try.ntmps56
    go_wp2_with fail
    go_ret
    exact ⟨rfl, rfl⟩
  have hz : fieldsN op = 0 := by simp [fieldsN, h1, h2, h3, h5, h6, h7, h8]
  rw [hz]
  go_enter Try.func56, Try.ntmps56
  go_wp2_with fail
  go_ret
  exact ⟨rfl, rfl⟩
def hasN (op f : Int) : Bool := decide (bits .and .u64 (fieldsN op) f ≠ 0)
theorem has_calls (op f : Int) (w : World) :
    Calls Try.prog 35 #[.int .i64 op, .int .u64 f] w fun e w' => e = .returned (.bool (hasN op f)) ∧ w' = w := by
  go_enter Try.func35, Try.ntmps35
  go_wp2_with fail
  refine (fields_calls op w).mono ?_
  rintro e _ ⟨rfl, rfl⟩
  generalize hfn : fieldsN op = fo at *
  go_wp2_with fail
  go_ret
  exact ⟨by unfold hasN; rw [hfn]; by_cases h : bits .and .u64 fo f = 0 <;> simp [h], rfl⟩
theorem CUpdates_calls (op : Int) (w : World) :
    Calls Try.prog 23 #[.int .i64 op] w fun e w' => e = .returned (.bool (decide (op = 1 ∨ op = 2))) ∧ w' = w := by
  by_cases h1 : op = 1
  · subst h1
    go_enter Try.func23, Try.ntmps23
    go_wp2_with fail
    go_ret
    exact ⟨rfl, rfl⟩
  go_enter Try.func23, Try.ntmps23
  go_wp2_with fail
  go_ret
  exact ⟨by by_cases h2 : op = 2 <;> simp [h1, h2], rfl⟩
theorem RhasID_calls (op : Int) (w : World) :
    Calls Try.prog 46 #[.int .i64 op] w fun e w' => e = .returned (.bool (decide (op = 1 ∨ op = 2 ∨ op = 3 ∨ op = 5))) ∧ w' = w := by
  by_cases h : op = 1 ∨ op = 2 ∨ op = 3 ∨ op = 5
  · rcases h with rfl | rfl | rfl | rfl
    all_goals
      go_enter Try.func46, Try.ntmps46
      go_wp2_with fail
      go_ret
      exact ⟨rfl, rfl⟩
  · rw [decide_eq_false h]
    have h1 : op ≠ 1 := by omega
    have h2 : op ≠ 2 := by omega
    have h3 : op ≠ 3 := by omega
    have h5 : op ≠ 5 := by omega
    clear h
    go_enter Try.func46, Try.ntmps46
    go_wp2_with fail
    go_ret
    exact ⟨by simp [h1, h2, h3, h5], rfl⟩
theorem RhasK_calls (op : Int) (w : World) :
    Calls Try.prog 50 #[.int .i64 op] w fun e w' => e = .returned (.bool (decide (op = 6 ∨ op = 7))) ∧ w' = w := by
  by_cases h1 : op = 6
  · subst h1
    go_enter Try.func50, Try.ntmps50
    go_wp2_with fail
    go_ret
    exact ⟨rfl, rfl⟩
  go_enter Try.func50, Try.ntmps50
  go_wp2_with fail
  go_ret
  exact ⟨by by_cases h2 : op = 7 <;> simp [h1, h2], rfl⟩
theorem RhasVec_calls (op : Int) (w : World) :
    Calls Try.prog 48 #[.int .i64 op] w fun e w' => e = .returned (.bool (decide (op = 1 ∨ op = 6 ∨ op = 7))) ∧ w' = w := by
  by_cases h1 : op = 1
  · subst h1
    go_enter Try.func48, Try.ntmps48
    go_wp2_with fail
    go_ret
    exact ⟨rfl, rfl⟩
  go_enter Try.func48, Try.ntmps48
  go_wp2_with fail
  refine (RhasK_calls op w).mono ?_
  rintro e _ ⟨rfl, rfl⟩
  go_wp2_with fail
  go_ret
  exact ⟨by simp [h1], rfl⟩
theorem RUpdates_calls (op : Int) (w : World) :
    Calls Try.prog 32 #[.int .i64 op] w fun e w' => e = .returned (.bool (decide (op = 1 ∨ op = 2))) ∧ w' = w := by
  by_cases h1 : op = 1
  · subst h1
    go_enter Try.func32, Try.ntmps32
    go_wp2_with fail
    go_ret
    exact ⟨rfl, rfl⟩
  go_enter Try.func32, Try.ntmps32
  go_wp2_with fail
  go_ret
  exact ⟨by by_cases h2 : op = 2 <;> simp [h1, h2], rfl⟩
/-- has, for each field. -/
theorem has_id (op : Int) : hasN op 1 = decide (op = 1 ∨ op = 2 ∨ op = 3 ∨ op = 5) := by
  unfold hasN fieldsN
  by_cases h1 : op = 1
  · subst h1; decide
  by_cases h2 : op = 2 ∨ op = 3 ∨ op = 5
  · rw [if_neg h1, if_pos h2, decide_eq_true (show op = 1 ∨ op = 2 ∨ op = 3 ∨ op = 5 from .inr h2)]; decide
  rw [if_neg h1, if_neg h2, decide_eq_false (show ¬ (op = 1 ∨ op = 2 ∨ op = 3 ∨ op = 5) by omega)]
  by_cases h6 : op = 6 ∨ op = 7
  · rw [if_pos h6]; decide
  rw [if_neg h6]
  by_cases h8 : op = 8
  · rw [if_pos h8]; decide
  rw [if_neg h8]; decide
theorem has_vec (op : Int) : hasN op 2 = decide (op = 1 ∨ op = 6 ∨ op = 7) := by
  unfold hasN fieldsN
  by_cases h1 : op = 1
  · subst h1; decide
  by_cases h2 : op = 2 ∨ op = 3 ∨ op = 5
  · rw [if_neg h1, if_pos h2, decide_eq_false (show ¬ (op = 1 ∨ op = 6 ∨ op = 7) by omega)]; decide
  rw [if_neg h1, if_neg h2]
  by_cases h6 : op = 6 ∨ op = 7
  · rw [if_pos h6, decide_eq_true (show op = 1 ∨ op = 6 ∨ op = 7 from .inr h6)]; decide
  rw [if_neg h6, decide_eq_false (show ¬ (op = 1 ∨ op = 6 ∨ op = 7) by omega)]
  by_cases h8 : op = 8
  · rw [if_pos h8]; decide
  rw [if_neg h8]; decide
theorem has_k (op : Int) : hasN op 4 = decide (op = 6 ∨ op = 7) := by
  unfold hasN fieldsN
  by_cases h1 : op = 1
  · subst h1; decide
  by_cases h2 : op = 2 ∨ op = 3 ∨ op = 5
  · rw [if_neg h1, if_pos h2, decide_eq_false (show ¬ (op = 6 ∨ op = 7) by omega)]; decide
  rw [if_neg h1, if_neg h2]
  by_cases h6 : op = 6 ∨ op = 7
  · rw [if_pos h6, decide_eq_true h6]; decide
  rw [if_neg h6, decide_eq_false h6]
  by_cases h8 : op = 8
  · rw [if_pos h8]; decide
  rw [if_neg h8]; decide
theorem has_draws (op : Int) : hasN op 8 = decide (op = 8) := by
  unfold hasN fieldsN
  by_cases h1 : op = 1
  · subst h1; decide
  by_cases h2 : op = 2 ∨ op = 3 ∨ op = 5
  · rw [if_neg h1, if_pos h2, decide_eq_false (show ¬ (op = 8) by omega)]; decide
  rw [if_neg h1, if_neg h2]
  by_cases h6 : op = 6 ∨ op = 7
  · rw [if_pos h6, decide_eq_false (show ¬ (op = 8) by omega)]; decide
  rw [if_neg h6]
  by_cases h8 : op = 8
  · rw [if_pos h8, decide_eq_true h8]; decide
  rw [if_neg h8, decide_eq_false h8]; decide
end Go.Proofs.Ytjdablkdndmcgaa
