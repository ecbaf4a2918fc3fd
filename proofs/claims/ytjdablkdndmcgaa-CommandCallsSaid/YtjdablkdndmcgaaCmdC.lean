/- CmdC: command.Check. -/
import Derived.Test.YtjdablkdndmcgaaCmdS
namespace Go.Proofs.Ytjdablkdndmcgaa
set_option linter.unusedVariables false
set_option linter.unusedSimpArgs false
open Go.RowKit
attribute [local go_sem] run_max run_min
/-- Is it a command? -/
def cmOk (x : Cm) : Prop :=
  (1 ≤ x.op ∧ x.op ≤ 12) ∧ (if x.op = 1 ∨ x.op = 2 ∨ x.op = 3 ∨ x.op = 5 then 1 ≤ x.id else x.id = 0) ∧
  (if x.op = 1 ∨ x.op = 6 ∨ x.op = 7 then 1 ≤ x.v.length ∧ x.v.length ≤ 1024 else x.v = []) ∧
  (if x.op = 6 ∨ x.op = 7 then (0 ≤ x.k ∧ x.k ≤ 2147483647) ∧ 0 ≤ x.p ∧ x.p ≤ 2147483647 else x.k = 0 ∧ x.p = 0) ∧
  (if x.op = 8 then x.d.length ≤ 4096 else x.d = [])
instance (x : Cm) : Decidable (cmOk x) := by unfold cmOk; infer_instance
/-- Check, an op without fields. -/
theorem CCheck_none (x : Cm) (A : Option Addr) (a : Nat) (B : Option Addr) (b : Nat) (w : World) (hx : CmK w x A a B b) (h1 : ¬ (x.op = 1 ∨ x.op = 2 ∨ x.op = 3 ∨ x.op = 5)) (h2 : ¬ (x.op = 1 ∨ x.op = 6 ∨ x.op = 7)) (h8 : ¬ x.op = 8) :
    Calls Try.prog 15 #[.agg (cmC x A a B b).toArray] w fun e w' => e = .returned (.int .i64 (if cmOk x then 0 else 2)) ∧ Below w.heap.size w w' := by
  have b2 : ∀ o o', Below w.heap.size w ((w.alloc o).alloc o') := fun o o' => below_alloc (below_alloc (Below.refl _ _) _) _
  have B2 := Lib.hid b2
  clear b2
  obtain ⟨op, id, v, k, p, d⟩ := x
  dsimp only at *
  have f1 : hasN op 1 = false := by rw [has_id]; exact decide_eq_false h1
  have f2 : hasN op 2 = false := by rw [has_vec]; exact decide_eq_false h2
  have f4 : hasN op 4 = false := by rw [has_k]; exact decide_eq_false (by omega)
  have f8 : hasN op 8 = false := by rw [has_draws]; exact decide_eq_false h8
  have hok : cmOk ⟨op, id, v, k, p, d⟩ ↔ (1 ≤ op ∧ op ≤ 12) ∧ (Cm.mk op 0 [] 0 0 [] = ⟨op, id, v, k, p, d⟩) := by
    unfold cmOk
    dsimp only
    rw [if_neg h1, if_neg h2, if_neg (by omega), if_neg h8]
    simp only [Cm.mk.injEq, true_and]
    constructor
    · rintro ⟨a1, rfl, rfl, ⟨rfl, rfl⟩, rfl⟩; exact ⟨a1, rfl, rfl, rfl, rfl, rfl⟩
    · rintro ⟨a1, rfl, rfl, rfl, rfl, rfl⟩; exact ⟨a1, rfl, rfl, ⟨rfl, rfl⟩, rfl⟩
  clear h1 h2 h8
  by_cases o1 : 1 ≤ op
  case neg =>
    have hz : (if cmOk ⟨op, id, v, k, p, d⟩ then (0 : Int) else 2) = 2 := if_neg (fun hh => o1 (hok.1 hh).1.1)
    rw [hz]
    clear hok hz
    unfold cmC
    dsimp only
    go_enter Try.func15, Try.ntmps15
    go_wp2_with fail
    refine (has_calls op 1 _).mono ?_
    rintro e _ ⟨rfl, rfl⟩
    rw [f1]
    go_wp2_with fail
    refine (has_calls op 2 _).mono ?_
    rintro e _ ⟨rfl, rfl⟩
    rw [f2]
    go_wp2_with fail
    refine (has_calls op 4 _).mono ?_
    rintro e _ ⟨rfl, rfl⟩
    rw [f4]
    go_wp2_with fail
    refine (has_calls op 8 _).mono ?_
    rintro e _ ⟨rfl, rfl⟩
    rw [f8]
    go_wp2_with fail
    go_ret
    exact ⟨rfl, B2.out _ _⟩
  by_cases o2 : op ≤ 12
  case neg =>
    have hz : (if cmOk ⟨op, id, v, k, p, d⟩ then (0 : Int) else 2) = 2 := if_neg (fun hh => o2 (hok.1 hh).1.2)
    rw [hz]
    clear hok hz
    unfold cmC
    dsimp only
    go_enter Try.func15, Try.ntmps15
    go_wp2_with fail
    refine (has_calls op 1 _).mono ?_
    rintro e _ ⟨rfl, rfl⟩
    rw [f1]
    go_wp2_with fail
    refine (has_calls op 2 _).mono ?_
    rintro e _ ⟨rfl, rfl⟩
    rw [f2]
    go_wp2_with fail
    refine (has_calls op 4 _).mono ?_
    rintro e _ ⟨rfl, rfl⟩
    rw [f4]
    go_wp2_with fail
    refine (has_calls op 8 _).mono ?_
    rintro e _ ⟨rfl, rfl⟩
    rw [f8]
    go_wp2_with fail
    go_ret
    exact ⟨rfl, B2.out _ _⟩
  have hz : (if cmOk ⟨op, id, v, k, p, d⟩ then (0 : Int) else 2) = (if Cm.mk op 0 [] 0 0 [] = ⟨op, id, v, k, p, d⟩ then 0 else 2) := by
    by_cases hh : Cm.mk op 0 [] 0 0 [] = ⟨op, id, v, k, p, d⟩
    · rw [if_pos hh, if_pos (hok.2 ⟨⟨o1, o2⟩, hh⟩)]
    · rw [if_neg hh, if_neg (fun q => hh (hok.1 q).2)]
  rw [hz]
  clear hok hz
  obtain ⟨cr, hcr⟩ : ∃ cr : Int, Hid (cr = if Cm.mk op 0 [] 0 0 [] = ⟨op, id, v, k, p, d⟩ then 0 else 2) := ⟨_, rfl⟩
  rw [← hcr.out]
  have CS := fun w' h h' => CSame_calls ⟨op, 0, [], 0, 0, []⟩ ⟨op, id, v, k, p, d⟩ none 0 none 0 A a B b w' h h'
  unfold cmC at *
  dsimp only at *
  simp only [List.length_nil] at CS
  go_enter Try.func15, Try.ntmps15
  go_wp2_with fail
  refine (has_calls op 1 _).mono ?_
  rintro e _ ⟨rfl, rfl⟩
  rw [f1]
  go_wp2_with fail
  refine (has_calls op 2 _).mono ?_
  rintro e _ ⟨rfl, rfl⟩
  rw [f2]
  go_wp2_with fail
  refine (has_calls op 4 _).mono ?_
  rintro e _ ⟨rfl, rfl⟩
  rw [f4]
  go_wp2_with fail
  refine (has_calls op 8 _).mono ?_
  rintro e _ ⟨rfl, rfl⟩
  rw [f8]
  go_wp2_with fail
  have hb := B2.out
  refine (CS _ ⟨SlI.nil _ _, SlI.nil _ _⟩ (hx.below (hb _ _))).mono ?_
  rintro e w1 ⟨rfl, b1⟩
  have H := Lib.hid (below_then (hb _ _) (hb _ _).size b1)
  clear hb b1 CS
  by_cases hh : Cm.mk op 0 [] 0 0 [] = ⟨op, id, v, k, p, d⟩
  · rw [decide_eq_true hh]
    go_wp2_with fail
    go_ret
    exact ⟨by rw [hcr.out, if_pos hh]; rfl, H.out⟩
  · rw [decide_eq_false hh]
    go_wp2_with fail
    go_ret
    exact ⟨by rw [hcr.out, if_neg hh]; rfl, H.out⟩
set_option maxHeartbeats 4000000 in
/-- Check, an op with an id alone. -/
theorem CCheck_id (x : Cm) (A : Option Addr) (a : Nat) (B : Option Addr) (b : Nat) (w : World) (hx : CmK w x A a B b) (h1 : x.op = 2 ∨ x.op = 3 ∨ x.op = 5) :
    Calls Try.prog 15 #[.agg (cmC x A a B b).toArray] w fun e w' => e = .returned (.int .i64 (if cmOk x then 0 else 2)) ∧ Below w.heap.size w w' := by
  have b2 : ∀ o o', Below w.heap.size w ((w.alloc o).alloc o').drew := fun o o' => (below_alloc (below_alloc (Below.refl _ _) _) _).drew
  have B2 := Lib.hid b2
  clear b2
  obtain ⟨op, id, v, k, p, d⟩ := x
  dsimp only at *
  have f1 : hasN op 1 = true := by rw [has_id]; exact decide_eq_true (by omega)
  have f2 : hasN op 2 = false := by rw [has_vec]; exact decide_eq_false (by omega)
  have f4 : hasN op 4 = false := by rw [has_k]; exact decide_eq_false (by omega)
  have f8 : hasN op 8 = false := by rw [has_draws]; exact decide_eq_false (by omega)
  have hok : cmOk ⟨op, id, v, k, p, d⟩ ↔ ((1 ≤ id)) ∧ (Cm.mk op id [] 0 0 [] = ⟨op, id, v, k, p, d⟩) := by
    unfold cmOk
    dsimp only
    rw [if_pos (by omega), if_neg (by omega), if_neg (by omega), if_neg (by omega)]
    simp only [Cm.mk.injEq, true_and, and_true]
    constructor
    · rintro ⟨a1, a2, rfl, ⟨rfl, rfl⟩, rfl⟩; exact ⟨a2, rfl, rfl, rfl, rfl⟩
    · rintro ⟨a1, rfl, rfl, rfl, rfl⟩; exact ⟨by omega, a1, rfl, ⟨rfl, rfl⟩, rfl⟩
  have o1 : 1 ≤ op := by omega
  have o2 : op ≤ 12 := by omega
  clear h1
  by_cases i0 : 1 ≤ id
  case neg =>
    have hz : (if cmOk ⟨op, id, v, k, p, d⟩ then (0 : Int) else 2) = 2 := if_neg (fun hh => i0 (by have := (hok.1 hh).1; omega))
    rw [hz]
    clear hok hz
    unfold cmC
    dsimp only
    have hD0 := decide_eq_false i0
    go_enter Try.func15, Try.ntmps15
    go_wp2_with fail
    all_goals
      refine (has_calls op 1 _).mono ?_
      rintro e _ ⟨rfl, rfl⟩
      rw [f1]
      go_wp2_with fail
    all_goals go_region
    all_goals go_wp2_with fail
    all_goals try simp only [decide_eq_false i0, Bool.false_and, Bool.and_false]
    all_goals
      refine (has_calls op 2 _).mono ?_
      rintro e _ ⟨rfl, rfl⟩
      rw [f2]
      go_wp2_with fail
    all_goals
      refine (has_calls op 4 _).mono ?_
      rintro e _ ⟨rfl, rfl⟩
      rw [f4]
      go_wp2_with fail
    all_goals
      refine (has_calls op 8 _).mono ?_
      rintro e _ ⟨rfl, rfl⟩
      rw [f8]
      go_wp2_with fail
    all_goals
      go_ret
      exact ⟨rfl, B2.out _ _⟩
  have hz : (if cmOk ⟨op, id, v, k, p, d⟩ then (0 : Int) else 2) = (if Cm.mk op id [] 0 0 [] = ⟨op, id, v, k, p, d⟩ then 0 else 2) := by
    by_cases hh : Cm.mk op id [] 0 0 [] = ⟨op, id, v, k, p, d⟩
    · rw [if_pos hh, if_pos (hok.2 ⟨by omega, hh⟩)]
    · rw [if_neg hh, if_neg (fun q => hh (hok.1 q).2)]
  rw [hz]
  clear hok hz
  obtain ⟨cr, hcr⟩ : ∃ cr : Int, Hid (cr = if Cm.mk op id [] 0 0 [] = ⟨op, id, v, k, p, d⟩ then 0 else 2) := ⟨_, rfl⟩
  rw [← hcr.out]
  have CS := fun w' h h' => CSame_calls (Cm.mk op id [] 0 0 []) ⟨op, id, v, k, p, d⟩ none 0 none 0 A a B b w' h h'
  unfold cmC at *
  dsimp only at *
  simp only [List.length_nil] at CS
  go_enter Try.func15, Try.ntmps15
  go_wp2_with fail
  all_goals
    refine (has_calls op 1 _).mono ?_
    rintro e _ ⟨rfl, rfl⟩
    rw [f1]
    go_wp2_with fail
  all_goals go_region
  all_goals go_wp2_with fail
  all_goals try simp only [decide_eq_true i0, Bool.true_and, Bool.and_true]
  all_goals
    refine (has_calls op 2 _).mono ?_
    rintro e _ ⟨rfl, rfl⟩
    rw [f2]
    go_wp2_with fail
  all_goals
    refine (has_calls op 4 _).mono ?_
    rintro e _ ⟨rfl, rfl⟩
    rw [f4]
    go_wp2_with fail
  all_goals
    refine (has_calls op 8 _).mono ?_
    rintro e _ ⟨rfl, rfl⟩
    rw [f8]
    go_wp2_with fail
  all_goals
    have hb := B2.out
    refine (CS _ ⟨SlI.nil _ _, SlI.nil _ _⟩ (hx.below (hb _ _))).mono ?_
    rintro e w1 ⟨rfl, b1⟩
    have H := Lib.hid (below_then (hb _ _) (hb _ _).size b1)
    clear hb b1 CS
    by_cases hh : Cm.mk op id [] 0 0 [] = ⟨op, id, v, k, p, d⟩
    · rw [decide_eq_true hh]
      go_wp2_with fail
      go_ret
      exact ⟨by rw [hcr.out, if_pos hh]; rfl, H.out⟩
    · rw [decide_eq_false hh]
      go_wp2_with fail
      go_ret
      exact ⟨by rw [hcr.out, if_neg hh]; rfl, H.out⟩
set_option maxHeartbeats 4000000 in
/-- Check, a training. -/
theorem CCheck_draws (x : Cm) (A : Option Addr) (a : Nat) (B : Option Addr) (b : Nat) (w : World) (hx : CmK w x A a B b) (h1 : x.op = 8) :
    Calls Try.prog 15 #[.agg (cmC x A a B b).toArray] w fun e w' => e = .returned (.int .i64 (if cmOk x then 0 else 2)) ∧ Below w.heap.size w w' := by
  have b2 : ∀ o o', Below w.heap.size w ((w.alloc o).alloc o').drew := fun o o' => (below_alloc (below_alloc (Below.refl _ _) _) _).drew
  have B2 := Lib.hid b2
  clear b2
  obtain ⟨op, id, v, k, p, d⟩ := x
  dsimp only at *
  have f1 : hasN op 1 = false := by rw [has_id]; exact decide_eq_false (by omega)
  have f2 : hasN op 2 = false := by rw [has_vec]; exact decide_eq_false (by omega)
  have f4 : hasN op 4 = false := by rw [has_k]; exact decide_eq_false (by omega)
  have f8 : hasN op 8 = true := by rw [has_draws]; exact decide_eq_true (by omega)
  have hok : cmOk ⟨op, id, v, k, p, d⟩ ↔ (((d.length : Int) ≤ 4096)) ∧ (Cm.mk op 0 [] 0 0 d = ⟨op, id, v, k, p, d⟩) := by
    unfold cmOk
    dsimp only
    rw [if_neg (by omega), if_neg (by omega), if_neg (by omega), if_pos (by omega)]
    simp only [Cm.mk.injEq, true_and, and_true]
    constructor
    · rintro ⟨a1, rfl, rfl, ⟨rfl, rfl⟩, a2⟩; exact ⟨by omega, rfl, rfl, rfl, rfl⟩
    · rintro ⟨a1, rfl, rfl, rfl, rfl⟩; exact ⟨by omega, rfl, rfl, ⟨rfl, rfl⟩, by omega⟩
  have o1 : 1 ≤ op := by omega
  have o2 : op ≤ 12 := by omega
  clear h1
  by_cases i0 : (d.length : Int) ≤ 4096
  case neg =>
    have hz : (if cmOk ⟨op, id, v, k, p, d⟩ then (0 : Int) else 2) = 2 := if_neg (fun hh => i0 (by have := (hok.1 hh).1; omega))
    rw [hz]
    clear hok hz
    unfold cmC
    dsimp only
    have hD0 := decide_eq_false i0
    go_enter Try.func15, Try.ntmps15
    go_wp2_with fail
    all_goals
      refine (has_calls op 1 _).mono ?_
      rintro e _ ⟨rfl, rfl⟩
      rw [f1]
      go_wp2_with fail
    all_goals
      refine (has_calls op 2 _).mono ?_
      rintro e _ ⟨rfl, rfl⟩
      rw [f2]
      go_wp2_with fail
    all_goals
      refine (has_calls op 4 _).mono ?_
      rintro e _ ⟨rfl, rfl⟩
      rw [f4]
      go_wp2_with fail
    all_goals
      refine (has_calls op 8 _).mono ?_
      rintro e _ ⟨rfl, rfl⟩
      rw [f8]
      go_wp2_with fail
    all_goals go_region
    all_goals go_wp2_with fail
    all_goals try simp only [decide_eq_false i0, Bool.false_and, Bool.and_false]
    all_goals
      go_ret
      exact ⟨rfl, B2.out _ _⟩
  have hz : (if cmOk ⟨op, id, v, k, p, d⟩ then (0 : Int) else 2) = (if Cm.mk op 0 [] 0 0 d = ⟨op, id, v, k, p, d⟩ then 0 else 2) := by
    by_cases hh : Cm.mk op 0 [] 0 0 d = ⟨op, id, v, k, p, d⟩
    · rw [if_pos hh, if_pos (hok.2 ⟨by omega, hh⟩)]
    · rw [if_neg hh, if_neg (fun q => hh (hok.1 q).2)]
  rw [hz]
  clear hok hz
  obtain ⟨cr, hcr⟩ : ∃ cr : Int, Hid (cr = if Cm.mk op 0 [] 0 0 d = ⟨op, id, v, k, p, d⟩ then 0 else 2) := ⟨_, rfl⟩
  rw [← hcr.out]
  have CS := fun w' h h' => CSame_calls (Cm.mk op 0 [] 0 0 d) ⟨op, id, v, k, p, d⟩ none 0 B b A a B b w' h h'
  unfold cmC at *
  dsimp only at *
  simp only [List.length_nil] at CS
  go_enter Try.func15, Try.ntmps15
  go_wp2_with fail
  all_goals
    refine (has_calls op 1 _).mono ?_
    rintro e _ ⟨rfl, rfl⟩
    rw [f1]
    go_wp2_with fail
  all_goals
    refine (has_calls op 2 _).mono ?_
    rintro e _ ⟨rfl, rfl⟩
    rw [f2]
    go_wp2_with fail
  all_goals
    refine (has_calls op 4 _).mono ?_
    rintro e _ ⟨rfl, rfl⟩
    rw [f4]
    go_wp2_with fail
  all_goals
    refine (has_calls op 8 _).mono ?_
    rintro e _ ⟨rfl, rfl⟩
    rw [f8]
    go_wp2_with fail
  all_goals go_region
  all_goals go_wp2_with fail
  all_goals try simp only [decide_eq_true i0, Bool.true_and, Bool.and_true]
  all_goals
    have hb := B2.out
    refine (CS _ ⟨SlI.nil _ _, (hx.below (hb _ _)).d⟩ (hx.below (hb _ _))).mono ?_
    rintro e w1 ⟨rfl, b1⟩
    have H := Lib.hid (below_then (hb _ _) (hb _ _).size b1)
    clear hb b1 CS
    by_cases hh : Cm.mk op 0 [] 0 0 d = ⟨op, id, v, k, p, d⟩
    · rw [decide_eq_true hh]
      go_wp2_with fail
      go_ret
      exact ⟨by rw [hcr.out, if_pos hh]; rfl, H.out⟩
    · rw [decide_eq_false hh]
      go_wp2_with fail
      go_ret
      exact ⟨by rw [hcr.out, if_neg hh]; rfl, H.out⟩
set_option maxHeartbeats 4000000 in
/-- Check, an insert. -/
theorem CCheck_insert (x : Cm) (A : Option Addr) (a : Nat) (B : Option Addr) (b : Nat) (w : World) (hx : CmK w x A a B b) (h1 : x.op = 1) :
    Calls Try.prog 15 #[.agg (cmC x A a B b).toArray] w fun e w' => e = .returned (.int .i64 (if cmOk x then 0 else 2)) ∧ Below w.heap.size w w' := by
  have b2 : ∀ o o', Below w.heap.size w ((w.alloc o).alloc o').drew.drew := fun o o' => (below_alloc (below_alloc (Below.refl _ _) _) _).drew.drew
  have B2 := Lib.hid b2
  clear b2
  obtain ⟨op, id, v, k, p, d⟩ := x
  dsimp only at *
  have f1 : hasN op 1 = true := by rw [has_id]; exact decide_eq_true (by omega)
  have f2 : hasN op 2 = true := by rw [has_vec]; exact decide_eq_true (by omega)
  have f4 : hasN op 4 = false := by rw [has_k]; exact decide_eq_false (by omega)
  have f8 : hasN op 8 = false := by rw [has_draws]; exact decide_eq_false (by omega)
  have hok : cmOk ⟨op, id, v, k, p, d⟩ ↔ ((1 ≤ id) ∧ (1 ≤ (v.length : Int)) ∧ ((v.length : Int) ≤ 1024)) ∧ (Cm.mk op id v 0 0 [] = ⟨op, id, v, k, p, d⟩) := by
    unfold cmOk
    dsimp only
    rw [if_pos (by omega), if_pos (by omega), if_neg (by omega), if_neg (by omega)]
    simp only [Cm.mk.injEq, true_and, and_true]
    constructor
    · rintro ⟨a1, a2, a3, ⟨rfl, rfl⟩, rfl⟩; exact ⟨by omega, rfl, rfl, rfl⟩
    · rintro ⟨a1, rfl, rfl, rfl⟩; exact ⟨by omega, by omega, by omega, ⟨rfl, rfl⟩, rfl⟩
  have o1 : 1 ≤ op := by omega
  have o2 : op ≤ 12 := by omega
  clear h1
  by_cases i0 : 1 ≤ id
  case neg =>
    have hz : (if cmOk ⟨op, id, v, k, p, d⟩ then (0 : Int) else 2) = 2 := if_neg (fun hh => i0 (by have := (hok.1 hh).1; omega))
    rw [hz]
    clear hok hz
    unfold cmC
    dsimp only
    have hD0 := decide_eq_false i0
    go_enter Try.func15, Try.ntmps15
    go_wp2_with fail
    all_goals
      refine (has_calls op 1 _).mono ?_
      rintro e _ ⟨rfl, rfl⟩
      rw [f1]
      go_wp2_with fail
    all_goals go_region
    all_goals go_wp2_with fail
    all_goals try simp only [decide_eq_false i0, Bool.false_and, Bool.and_false]
    all_goals
      refine (has_calls op 2 _).mono ?_
      rintro e _ ⟨rfl, rfl⟩
      rw [f2]
      go_wp2_with fail
    all_goals go_region
    all_goals go_wp2_with fail
    all_goals try simp only [decide_eq_false i0, Bool.false_and, Bool.and_false]
    all_goals
      refine (has_calls op 4 _).mono ?_
      rintro e _ ⟨rfl, rfl⟩
      rw [f4]
      go_wp2_with fail
    all_goals
      refine (has_calls op 8 _).mono ?_
      rintro e _ ⟨rfl, rfl⟩
      rw [f8]
      go_wp2_with fail
    all_goals
      go_ret
      exact ⟨rfl, B2.out _ _⟩
  by_cases i1 : 1 ≤ (v.length : Int)
  case neg =>
    have hz : (if cmOk ⟨op, id, v, k, p, d⟩ then (0 : Int) else 2) = 2 := if_neg (fun hh => i1 (by have := (hok.1 hh).1; omega))
    rw [hz]
    clear hok hz
    unfold cmC
    dsimp only
    have hD1 := decide_eq_false i1
    have hD0 := decide_eq_true i0
    go_enter Try.func15, Try.ntmps15
    go_wp2_with fail
    all_goals
      refine (has_calls op 1 _).mono ?_
      rintro e _ ⟨rfl, rfl⟩
      rw [f1]
      go_wp2_with fail
    all_goals go_region
    all_goals go_wp2_with fail
    all_goals try simp only [decide_eq_true i0, Bool.true_and, Bool.and_true]
    all_goals try simp only [decide_eq_false i1, Bool.false_and, Bool.and_false]
    all_goals
      refine (has_calls op 2 _).mono ?_
      rintro e _ ⟨rfl, rfl⟩
      rw [f2]
      go_wp2_with fail
    all_goals go_region
    all_goals go_wp2_with fail
    all_goals try simp only [decide_eq_true i0, Bool.true_and, Bool.and_true]
    all_goals try simp only [decide_eq_false i1, Bool.false_and, Bool.and_false]
    all_goals
      refine (has_calls op 4 _).mono ?_
      rintro e _ ⟨rfl, rfl⟩
      rw [f4]
      go_wp2_with fail
    all_goals
      refine (has_calls op 8 _).mono ?_
      rintro e _ ⟨rfl, rfl⟩
      rw [f8]
      go_wp2_with fail
    all_goals
      go_ret
      exact ⟨rfl, B2.out _ _⟩
  by_cases i2 : (v.length : Int) ≤ 1024
  case neg =>
    have hz : (if cmOk ⟨op, id, v, k, p, d⟩ then (0 : Int) else 2) = 2 := if_neg (fun hh => i2 (by have := (hok.1 hh).1; omega))
    rw [hz]
    clear hok hz
    unfold cmC
    dsimp only
    have hD2 := decide_eq_false i2
    have hD0 := decide_eq_true i0
    have hD1 := decide_eq_true i1
    go_enter Try.func15, Try.ntmps15
    go_wp2_with fail
    all_goals
      refine (has_calls op 1 _).mono ?_
      rintro e _ ⟨rfl, rfl⟩
      rw [f1]
      go_wp2_with fail
    all_goals go_region
    all_goals go_wp2_with fail
    all_goals try simp only [decide_eq_true i0, Bool.true_and, Bool.and_true]
    all_goals try simp only [decide_eq_true i1, Bool.true_and, Bool.and_true]
    all_goals try simp only [decide_eq_false i2, Bool.false_and, Bool.and_false]
    all_goals
      refine (has_calls op 2 _).mono ?_
      rintro e _ ⟨rfl, rfl⟩
      rw [f2]
      go_wp2_with fail
    all_goals go_region
    all_goals go_wp2_with fail
    all_goals try simp only [decide_eq_true i0, Bool.true_and, Bool.and_true]
    all_goals try simp only [decide_eq_true i1, Bool.true_and, Bool.and_true]
    all_goals try simp only [decide_eq_false i2, Bool.false_and, Bool.and_false]
    all_goals
      refine (has_calls op 4 _).mono ?_
      rintro e _ ⟨rfl, rfl⟩
      rw [f4]
      go_wp2_with fail
    all_goals
      refine (has_calls op 8 _).mono ?_
      rintro e _ ⟨rfl, rfl⟩
      rw [f8]
      go_wp2_with fail
    all_goals
      go_ret
      exact ⟨rfl, B2.out _ _⟩
  have hz : (if cmOk ⟨op, id, v, k, p, d⟩ then (0 : Int) else 2) = (if Cm.mk op id v 0 0 [] = ⟨op, id, v, k, p, d⟩ then 0 else 2) := by
    by_cases hh : Cm.mk op id v 0 0 [] = ⟨op, id, v, k, p, d⟩
    · rw [if_pos hh, if_pos (hok.2 ⟨by omega, hh⟩)]
    · rw [if_neg hh, if_neg (fun q => hh (hok.1 q).2)]
  rw [hz]
  clear hok hz
  obtain ⟨cr, hcr⟩ : ∃ cr : Int, Hid (cr = if Cm.mk op id v 0 0 [] = ⟨op, id, v, k, p, d⟩ then 0 else 2) := ⟨_, rfl⟩
  rw [← hcr.out]
  have CS := fun w' h h' => CSame_calls (Cm.mk op id v 0 0 []) ⟨op, id, v, k, p, d⟩ A a none 0 A a B b w' h h'
  unfold cmC at *
  dsimp only at *
  simp only [List.length_nil] at CS
  go_enter Try.func15, Try.ntmps15
  go_wp2_with fail
  all_goals
    refine (has_calls op 1 _).mono ?_
    rintro e _ ⟨rfl, rfl⟩
    rw [f1]
    go_wp2_with fail
  all_goals go_region
  all_goals go_wp2_with fail
  all_goals try simp only [decide_eq_true i0, Bool.true_and, Bool.and_true]
  all_goals try simp only [decide_eq_true i1, Bool.true_and, Bool.and_true]
  all_goals try simp only [decide_eq_true i2, Bool.true_and, Bool.and_true]
  all_goals
    refine (has_calls op 2 _).mono ?_
    rintro e _ ⟨rfl, rfl⟩
    rw [f2]
    go_wp2_with fail
  all_goals go_region
  all_goals go_wp2_with fail
  all_goals try simp only [decide_eq_true i0, Bool.true_and, Bool.and_true]
  all_goals try simp only [decide_eq_true i1, Bool.true_and, Bool.and_true]
  all_goals try simp only [decide_eq_true i2, Bool.true_and, Bool.and_true]
  all_goals
    refine (has_calls op 4 _).mono ?_
    rintro e _ ⟨rfl, rfl⟩
    rw [f4]
    go_wp2_with fail
  all_goals
    refine (has_calls op 8 _).mono ?_
    rintro e _ ⟨rfl, rfl⟩
    rw [f8]
    go_wp2_with fail
  all_goals
    have hb := B2.out
    refine (CS _ ⟨(hx.below (hb _ _)).v, SlI.nil _ _⟩ (hx.below (hb _ _))).mono ?_
    rintro e w1 ⟨rfl, b1⟩
    have H := Lib.hid (below_then (hb _ _) (hb _ _).size b1)
    clear hb b1 CS
    by_cases hh : Cm.mk op id v 0 0 [] = ⟨op, id, v, k, p, d⟩
    · rw [decide_eq_true hh]
      go_wp2_with fail
      go_ret
      exact ⟨by rw [hcr.out, if_pos hh]; rfl, H.out⟩
    · rw [decide_eq_false hh]
      go_wp2_with fail
      go_ret
      exact ⟨by rw [hcr.out, if_neg hh]; rfl, H.out⟩
set_option maxHeartbeats 4000000 in
/-- Check, a search. -/
theorem CCheck_search (x : Cm) (A : Option Addr) (a : Nat) (B : Option Addr) (b : Nat) (w : World) (hx : CmK w x A a B b) (h1 : x.op = 6 ∨ x.op = 7) :
    Calls Try.prog 15 #[.agg (cmC x A a B b).toArray] w fun e w' => e = .returned (.int .i64 (if cmOk x then 0 else 2)) ∧ Below w.heap.size w w' := by
  have b2 : ∀ o o', Below w.heap.size w ((w.alloc o).alloc o').drew.drew := fun o o' => (below_alloc (below_alloc (Below.refl _ _) _) _).drew.drew
  have B2 := Lib.hid b2
  clear b2
  obtain ⟨op, id, v, k, p, d⟩ := x
  dsimp only at *
  have f1 : hasN op 1 = false := by rw [has_id]; exact decide_eq_false (by omega)
  have f2 : hasN op 2 = true := by rw [has_vec]; exact decide_eq_true (by omega)
  have f4 : hasN op 4 = true := by rw [has_k]; exact decide_eq_true (by omega)
  have f8 : hasN op 8 = false := by rw [has_draws]; exact decide_eq_false (by omega)
  have hok : cmOk ⟨op, id, v, k, p, d⟩ ↔ ((1 ≤ (v.length : Int)) ∧ ((v.length : Int) ≤ 1024) ∧ (0 ≤ min k p) ∧ (max k p ≤ 2147483647)) ∧ (Cm.mk op 0 v k p [] = ⟨op, id, v, k, p, d⟩) := by
    unfold cmOk
    dsimp only
    rw [if_neg (by omega), if_pos (by omega), if_pos (by omega), if_neg (by omega)]
    simp only [Cm.mk.injEq, true_and, and_true]
    constructor
    · rintro ⟨a1, rfl, a3, a4, rfl⟩; exact ⟨by omega, rfl, rfl⟩
    · rintro ⟨a1, rfl, rfl⟩; exact ⟨by omega, rfl, by omega, by omega, rfl⟩
  have o1 : 1 ≤ op := by omega
  have o2 : op ≤ 12 := by omega
  clear h1
  by_cases i0 : 1 ≤ (v.length : Int)
  case neg =>
    have hz : (if cmOk ⟨op, id, v, k, p, d⟩ then (0 : Int) else 2) = 2 := if_neg (fun hh => i0 (by have := (hok.1 hh).1; omega))
    rw [hz]
    clear hok hz
    unfold cmC
    dsimp only
    have hD0 := decide_eq_false i0
    go_enter Try.func15, Try.ntmps15
    go_wp2_with fail
    all_goals
      refine (has_calls op 1 _).mono ?_
      rintro e _ ⟨rfl, rfl⟩
      rw [f1]
      go_wp2_with fail
    all_goals
      refine (has_calls op 2 _).mono ?_
      rintro e _ ⟨rfl, rfl⟩
      rw [f2]
      go_wp2_with fail
    all_goals go_region
    all_goals go_wp2_with fail
    all_goals try simp only [decide_eq_false i0, Bool.false_and, Bool.and_false]
    all_goals
      refine (has_calls op 4 _).mono ?_
      rintro e _ ⟨rfl, rfl⟩
      rw [f4]
      go_wp2_with fail
    all_goals go_region
    all_goals go_wp2_with fail
    all_goals try simp only [decide_eq_false i0, Bool.false_and, Bool.and_false]
    all_goals
      refine (has_calls op 8 _).mono ?_
      rintro e _ ⟨rfl, rfl⟩
      rw [f8]
      go_wp2_with fail
    all_goals
      go_ret
      exact ⟨rfl, B2.out _ _⟩
  by_cases i1 : (v.length : Int) ≤ 1024
  case neg =>
    have hz : (if cmOk ⟨op, id, v, k, p, d⟩ then (0 : Int) else 2) = 2 := if_neg (fun hh => i1 (by have := (hok.1 hh).1; omega))
    rw [hz]
    clear hok hz
    unfold cmC
    dsimp only
    have hD1 := decide_eq_false i1
    have hD0 := decide_eq_true i0
    go_enter Try.func15, Try.ntmps15
    go_wp2_with fail
    all_goals
      refine (has_calls op 1 _).mono ?_
      rintro e _ ⟨rfl, rfl⟩
      rw [f1]
      go_wp2_with fail
    all_goals
      refine (has_calls op 2 _).mono ?_
      rintro e _ ⟨rfl, rfl⟩
      rw [f2]
      go_wp2_with fail
    all_goals go_region
    all_goals go_wp2_with fail
    all_goals try simp only [decide_eq_true i0, Bool.true_and, Bool.and_true]
    all_goals try simp only [decide_eq_false i1, Bool.false_and, Bool.and_false]
    all_goals
      refine (has_calls op 4 _).mono ?_
      rintro e _ ⟨rfl, rfl⟩
      rw [f4]
      go_wp2_with fail
    all_goals go_region
    all_goals go_wp2_with fail
    all_goals try simp only [decide_eq_true i0, Bool.true_and, Bool.and_true]
    all_goals try simp only [decide_eq_false i1, Bool.false_and, Bool.and_false]
    all_goals
      refine (has_calls op 8 _).mono ?_
      rintro e _ ⟨rfl, rfl⟩
      rw [f8]
      go_wp2_with fail
    all_goals
      go_ret
      exact ⟨rfl, B2.out _ _⟩
  by_cases i2 : 0 ≤ min k p
  case neg =>
    have hz : (if cmOk ⟨op, id, v, k, p, d⟩ then (0 : Int) else 2) = 2 := if_neg (fun hh => i2 (by have := (hok.1 hh).1; omega))
    rw [hz]
    clear hok hz
    unfold cmC
    dsimp only
    have hD2 := decide_eq_false i2
    have hD0 := decide_eq_true i0
    have hD1 := decide_eq_true i1
    go_enter Try.func15, Try.ntmps15
    go_wp2_with fail
    all_goals
      refine (has_calls op 1 _).mono ?_
      rintro e _ ⟨rfl, rfl⟩
      rw [f1]
      go_wp2_with fail
    all_goals
      refine (has_calls op 2 _).mono ?_
      rintro e _ ⟨rfl, rfl⟩
      rw [f2]
      go_wp2_with fail
    all_goals go_region
    all_goals go_wp2_with fail
    all_goals try simp only [decide_eq_true i0, Bool.true_and, Bool.and_true]
    all_goals try simp only [decide_eq_true i1, Bool.true_and, Bool.and_true]
    all_goals try simp only [decide_eq_false i2, Bool.false_and, Bool.and_false]
    all_goals
      refine (has_calls op 4 _).mono ?_
      rintro e _ ⟨rfl, rfl⟩
      rw [f4]
      go_wp2_with fail
    all_goals go_region
    all_goals go_wp2_with fail
    all_goals try simp only [decide_eq_true i0, Bool.true_and, Bool.and_true]
    all_goals try simp only [decide_eq_true i1, Bool.true_and, Bool.and_true]
    all_goals try simp only [decide_eq_false i2, Bool.false_and, Bool.and_false]
    all_goals
      refine (has_calls op 8 _).mono ?_
      rintro e _ ⟨rfl, rfl⟩
      rw [f8]
      go_wp2_with fail
    all_goals
      go_ret
      exact ⟨rfl, B2.out _ _⟩
  by_cases i3 : max k p ≤ 2147483647
  case neg =>
    have hz : (if cmOk ⟨op, id, v, k, p, d⟩ then (0 : Int) else 2) = 2 := if_neg (fun hh => i3 (by have := (hok.1 hh).1; omega))
    rw [hz]
    clear hok hz
    unfold cmC
    dsimp only
    have hD3 := decide_eq_false i3
    have hD0 := decide_eq_true i0
    have hD1 := decide_eq_true i1
    have hD2 := decide_eq_true i2
    go_enter Try.func15, Try.ntmps15
    go_wp2_with fail
    all_goals
      refine (has_calls op 1 _).mono ?_
      rintro e _ ⟨rfl, rfl⟩
      rw [f1]
      go_wp2_with fail
    all_goals
      refine (has_calls op 2 _).mono ?_
      rintro e _ ⟨rfl, rfl⟩
      rw [f2]
      go_wp2_with fail
    all_goals go_region
    all_goals go_wp2_with fail
    all_goals try simp only [decide_eq_true i0, Bool.true_and, Bool.and_true]
    all_goals try simp only [decide_eq_true i1, Bool.true_and, Bool.and_true]
    all_goals try simp only [decide_eq_true i2, Bool.true_and, Bool.and_true]
    all_goals try simp only [decide_eq_false i3, Bool.false_and, Bool.and_false]
    all_goals
      refine (has_calls op 4 _).mono ?_
      rintro e _ ⟨rfl, rfl⟩
      rw [f4]
      go_wp2_with fail
    all_goals go_region
    all_goals go_wp2_with fail
    all_goals try simp only [decide_eq_true i0, Bool.true_and, Bool.and_true]
    all_goals try simp only [decide_eq_true i1, Bool.true_and, Bool.and_true]
    all_goals try simp only [decide_eq_true i2, Bool.true_and, Bool.and_true]
    all_goals try simp only [decide_eq_false i3, Bool.false_and, Bool.and_false]
    all_goals
      refine (has_calls op 8 _).mono ?_
      rintro e _ ⟨rfl, rfl⟩
      rw [f8]
      go_wp2_with fail
    all_goals
      go_ret
      exact ⟨rfl, B2.out _ _⟩
  have hz : (if cmOk ⟨op, id, v, k, p, d⟩ then (0 : Int) else 2) = (if Cm.mk op 0 v k p [] = ⟨op, id, v, k, p, d⟩ then 0 else 2) := by
    by_cases hh : Cm.mk op 0 v k p [] = ⟨op, id, v, k, p, d⟩
    · rw [if_pos hh, if_pos (hok.2 ⟨by omega, hh⟩)]
    · rw [if_neg hh, if_neg (fun q => hh (hok.1 q).2)]
  rw [hz]
  clear hok hz
  obtain ⟨cr, hcr⟩ : ∃ cr : Int, Hid (cr = if Cm.mk op 0 v k p [] = ⟨op, id, v, k, p, d⟩ then 0 else 2) := ⟨_, rfl⟩
  rw [← hcr.out]
  have CS := fun w' h h' => CSame_calls (Cm.mk op 0 v k p []) ⟨op, id, v, k, p, d⟩ A a none 0 A a B b w' h h'
  unfold cmC at *
  dsimp only at *
  simp only [List.length_nil] at CS
  go_enter Try.func15, Try.ntmps15
  go_wp2_with fail
  all_goals
    refine (has_calls op 1 _).mono ?_
    rintro e _ ⟨rfl, rfl⟩
    rw [f1]
    go_wp2_with fail
  all_goals
    refine (has_calls op 2 _).mono ?_
    rintro e _ ⟨rfl, rfl⟩
    rw [f2]
    go_wp2_with fail
  all_goals go_region
  all_goals go_wp2_with fail
  all_goals try simp only [decide_eq_true i0, Bool.true_and, Bool.and_true]
  all_goals try simp only [decide_eq_true i1, Bool.true_and, Bool.and_true]
  all_goals try simp only [decide_eq_true i2, Bool.true_and, Bool.and_true]
  all_goals try simp only [decide_eq_true i3, Bool.true_and, Bool.and_true]
  all_goals
    refine (has_calls op 4 _).mono ?_
    rintro e _ ⟨rfl, rfl⟩
    rw [f4]
    go_wp2_with fail
  all_goals go_region
  all_goals go_wp2_with fail
  all_goals try simp only [decide_eq_true i0, Bool.true_and, Bool.and_true]
  all_goals try simp only [decide_eq_true i1, Bool.true_and, Bool.and_true]
  all_goals try simp only [decide_eq_true i2, Bool.true_and, Bool.and_true]
  all_goals try simp only [decide_eq_true i3, Bool.true_and, Bool.and_true]
  all_goals
    refine (has_calls op 8 _).mono ?_
    rintro e _ ⟨rfl, rfl⟩
    rw [f8]
    go_wp2_with fail
  all_goals
    have hb := B2.out
    refine (CS _ ⟨(hx.below (hb _ _)).v, SlI.nil _ _⟩ (hx.below (hb _ _))).mono ?_
    rintro e w1 ⟨rfl, b1⟩
    have H := Lib.hid (below_then (hb _ _) (hb _ _).size b1)
    clear hb b1 CS
    by_cases hh : Cm.mk op 0 v k p [] = ⟨op, id, v, k, p, d⟩
    · rw [decide_eq_true hh]
      go_wp2_with fail
      go_ret
      exact ⟨by rw [hcr.out, if_pos hh]; rfl, H.out⟩
    · rw [decide_eq_false hh]
      go_wp2_with fail
      go_ret
      exact ⟨by rw [hcr.out, if_neg hh]; rfl, H.out⟩
/-- command.Check. -/
theorem CCheck_calls (x : Cm) (A : Option Addr) (a : Nat) (B : Option Addr) (b : Nat) (w : World) (hx : CmK w x A a B b) :
    Calls Try.prog 15 #[.agg (cmC x A a B b).toArray] w fun e w' => e = .returned (.int .i64 (if cmOk x then 0 else 2)) ∧ Below w.heap.size w w' := by
  by_cases h1 : x.op = 1
  · exact CCheck_insert x A a B b w hx h1
  by_cases h2 : x.op = 2 ∨ x.op = 3 ∨ x.op = 5
  · exact CCheck_id x A a B b w hx h2
  by_cases h6 : x.op = 6 ∨ x.op = 7
  · exact CCheck_search x A a B b w hx h6
  by_cases h8 : x.op = 8
  · exact CCheck_draws x A a B b w hx h8
  exact CCheck_none x A a B b w hx (by omega) (by omega) h8
end Go.Proofs.Ytjdablkdndmcgaa
