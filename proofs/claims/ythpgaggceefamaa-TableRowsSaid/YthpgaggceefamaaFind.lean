/- slices.IndexFunc, ContainsFunc over slices of slices (of slices), with the program's own functions. -/
import Derived.Test.YthpgaggceefamaaKit
import Derived.Test.YthpgaggceefamaaMemB
import Derived.RangeFuncNested
namespace Go.Proofs.Ythpgaggceefamaa
set_option linter.unusedVariables false
set_option linter.unusedSimpArgs false
open Go.RowKit
theorem box_cell {w : World} (t : TypeId) (v : Value) : (w.alloc (.cells #[v] t)).cell? ⟨w.heap.size, 0, none⟩ = some v := (Boxed.new w t v).cell
theorem any_take {α : Type} (p : α → Bool) (d : α) {l : List α} {j : Nat} (h : j < l.length) : (l.take (j + 1)).any p = ((l.take j).any p || p (l.getD j d)) := by
  rw [List.take_add_one, List.getElem?_eq_getElem h, List.getD_eq_getElem?_getD, List.getElem?_eq_getElem h, List.any_append]
  simp
theorem any_of {α : Type} (p : α → Bool) (d : α) {l : List α} {j : Nat} (h : j < l.length) (hb : p (l.getD j d) = true) : l.any p = true := by
  rw [List.any_eq_true]
  rw [List.getD_eq_getElem?_getD, List.getElem?_eq_getElem h] at hb
  exact ⟨_, List.getElem_mem h, hb⟩
theorem Index1_calls  (p : _ → Bool) (A : Option Addr) (c : Nat) (l : List (List Int)) (w : World) (h : SlS w .i64 A c l)
    (H : ∀ B d x, SlI w .i64 B d x → Calls Try.prog 43 #[.slice B x.length d] w fun e w' => e = .returned (.bool (p x)) ∧ w = w') :
    Calls Try.prog 62 #[.slice A l.length c, .func (.func 43) #[] #[]] w fun e w' => (∃ r : Int, e = .returned (.int .i64 r) ∧ decide (0 ≤ r) = l.any p) ∧ w = w' := by
  have hm := h.len
  go_enter Try.func62, Try.ntmps62
  go_wp2_with fail
  go_loopg [5, 8] (l.length + 1) (fun gk u i w' => ∃ j : Nat, i = .int .i64 (j : Int) ∧ j ≤ l.length ∧ l.length < j + gk ∧ Hid ((l.take j).any p = false) ∧ w = w')
  case atStart => exact ⟨0, rfl, by omega, by omega, rfl, rfl⟩
  case round =>
    obtain ⟨j, rfl, hj, hg, ha, rfl⟩ := hrel
    by_cases hlt : j < l.length
    · have j1 : (j : Int) < (l.length : Int) := by omega
      obtain ⟨al, B, d, rfl, hc, hs⟩ := h.get j hlt
      have ht := any_take p [] hlt
      have H := H B d _ hs
      cases hb : p (l.getD j []) with
      | true =>
        have hany := Lib.hid (any_of p [] hlt hb)
        clear ht
        generalize l.getD j [] = v at *
        go_wp2_with fail
        refine H.mono ?_
        rintro e w' ⟨rfl, rfl⟩
        rw [hb]
        go_wp2_with fail
        go_ret
        exact ⟨⟨_, rfl, by rw [hany.out]; simp⟩, rfl⟩
      | false =>
        rw [ha.out, hb] at ht
        have ht := Lib.hid ht
        generalize l.getD j [] = v at *
        go_wp2_with fail
        refine H.mono ?_
        rintro e w' ⟨rfl, rfl⟩
        rw [hb]
        go_wp2_with fail
        go_roundg (gk - 1)
        case measure => omega
        case rel => exact ⟨j + 1, by simp, by omega, by omega, ht.out, rfl⟩
    · have j1 : ¬ (j : Int) < (l.length : Int) := by omega
      have htk : l.take j = l := List.take_of_length_le (by omega)
      have hany := Lib.hid (show l.any p = false by have := ha.out; rwa [htk] at this)
      clear htk
      go_wp2_with fail
      go_ret
      exact ⟨⟨_, rfl, by rw [hany.out]; rfl⟩, rfl⟩
theorem Contains1_calls  (p : _ → Bool) (A : Option Addr) (c : Nat) (l : List (List Int)) (w : World) (h : SlS w .i64 A c l)
    (H : ∀ B d x, SlI w .i64 B d x → Calls Try.prog 43 #[.slice B x.length d] w fun e w' => e = .returned (.bool (p x)) ∧ w = w') :
    Calls Try.prog 46 #[.slice A l.length c, .func (.func 43) #[] #[]] w fun e w' => e = .returned (.bool (l.any p)) ∧ w = w' := by
  go_enter Try.func46, Try.ntmps46
  go_wp2_with fail
  refine (Index1_calls  p A c l _ h H).mono ?_
  rintro e w' ⟨⟨r, rfl, hr⟩, rfl⟩
  go_wp2_with fail
  go_ret
  exact ⟨by first | rfl | (rw [← hr]; simp), rfl⟩
theorem Index2_calls  (p : _ → Bool) (A : Option Addr) (c : Nat) (l : List (List Int)) (w : World) (h : SlS w .i32 A c l)
    (H : ∀ B d x, SlI w .i32 B d x → Calls Try.prog 59 #[.slice B x.length d] w fun e w' => e = .returned (.bool (p x)) ∧ w = w') :
    Calls Try.prog 67 #[.slice A l.length c, .func (.func 59) #[] #[]] w fun e w' => (∃ r : Int, e = .returned (.int .i64 r) ∧ decide (0 ≤ r) = l.any p) ∧ w = w' := by
  have hm := h.len
  go_enter Try.func67, Try.ntmps67
  go_wp2_with fail
  go_loopg [5, 8] (l.length + 1) (fun gk u i w' => ∃ j : Nat, i = .int .i64 (j : Int) ∧ j ≤ l.length ∧ l.length < j + gk ∧ Hid ((l.take j).any p = false) ∧ w = w')
  case atStart => exact ⟨0, rfl, by omega, by omega, rfl, rfl⟩
  case round =>
    obtain ⟨j, rfl, hj, hg, ha, rfl⟩ := hrel
    by_cases hlt : j < l.length
    · have j1 : (j : Int) < (l.length : Int) := by omega
      obtain ⟨al, B, d, rfl, hc, hs⟩ := h.get j hlt
      have ht := any_take p [] hlt
      have H := H B d _ hs
      cases hb : p (l.getD j []) with
      | true =>
        have hany := Lib.hid (any_of p [] hlt hb)
        clear ht
        generalize l.getD j [] = v at *
        go_wp2_with fail
        refine H.mono ?_
        rintro e w' ⟨rfl, rfl⟩
        rw [hb]
        go_wp2_with fail
        go_ret
        exact ⟨⟨_, rfl, by rw [hany.out]; simp⟩, rfl⟩
      | false =>
        rw [ha.out, hb] at ht
        have ht := Lib.hid ht
        generalize l.getD j [] = v at *
        go_wp2_with fail
        refine H.mono ?_
        rintro e w' ⟨rfl, rfl⟩
        rw [hb]
        go_wp2_with fail
        go_roundg (gk - 1)
        case measure => omega
        case rel => exact ⟨j + 1, by simp, by omega, by omega, ht.out, rfl⟩
    · have j1 : ¬ (j : Int) < (l.length : Int) := by omega
      have htk : l.take j = l := List.take_of_length_le (by omega)
      have hany := Lib.hid (show l.any p = false by have := ha.out; rwa [htk] at this)
      clear htk
      go_wp2_with fail
      go_ret
      exact ⟨⟨_, rfl, by rw [hany.out]; rfl⟩, rfl⟩
theorem Contains2_calls  (p : _ → Bool) (A : Option Addr) (c : Nat) (l : List (List Int)) (w : World) (h : SlS w .i32 A c l)
    (H : ∀ B d x, SlI w .i32 B d x → Calls Try.prog 59 #[.slice B x.length d] w fun e w' => e = .returned (.bool (p x)) ∧ w = w') :
    Calls Try.prog 58 #[.slice A l.length c, .func (.func 59) #[] #[]] w fun e w' => e = .returned (.bool (l.any p)) ∧ w = w' := by
  go_enter Try.func58, Try.ntmps58
  go_wp2_with fail
  refine (Index2_calls  p A c l _ h H).mono ?_
  rintro e w' ⟨⟨r, rfl, hr⟩, rfl⟩
  go_wp2_with fail
  go_ret
  exact ⟨by first | rfl | (rw [← hr]; simp), rfl⟩
theorem Index3_calls (q1 : Value) (p : _ → Bool) (A : Option Addr) (c : Nat) (l : List (List Int)) (w : World) (h : SlS w .i32 A c l)
    (H : ∀ B d x, SlI w .i32 B d x → Calls Try.prog 66 #[.slice B x.length d, q1] w fun e w' => e = .returned (.bool (p x)) ∧ w = w') :
    Calls Try.prog 67 #[.slice A l.length c, .func (.func 66) #[] #[q1]] w fun e w' => (∃ r : Int, e = .returned (.int .i64 r) ∧ decide (0 ≤ r) = l.any p) ∧ w = w' := by
  have hm := h.len
  go_enter Try.func67, Try.ntmps67
  go_wp2_with fail
  go_loopg [5, 8] (l.length + 1) (fun gk u i w' => ∃ j : Nat, i = .int .i64 (j : Int) ∧ j ≤ l.length ∧ l.length < j + gk ∧ Hid ((l.take j).any p = false) ∧ w = w')
  case atStart => exact ⟨0, rfl, by omega, by omega, rfl, rfl⟩
  case round =>
    obtain ⟨j, rfl, hj, hg, ha, rfl⟩ := hrel
    by_cases hlt : j < l.length
    · have j1 : (j : Int) < (l.length : Int) := by omega
      obtain ⟨al, B, d, rfl, hc, hs⟩ := h.get j hlt
      have ht := any_take p [] hlt
      have H := H B d _ hs
      cases hb : p (l.getD j []) with
      | true =>
        have hany := Lib.hid (any_of p [] hlt hb)
        clear ht
        generalize l.getD j [] = v at *
        go_wp2_with fail
        refine H.mono ?_
        rintro e w' ⟨rfl, rfl⟩
        rw [hb]
        go_wp2_with fail
        go_ret
        exact ⟨⟨_, rfl, by rw [hany.out]; simp⟩, rfl⟩
      | false =>
        rw [ha.out, hb] at ht
        have ht := Lib.hid ht
        generalize l.getD j [] = v at *
        go_wp2_with fail
        refine H.mono ?_
        rintro e w' ⟨rfl, rfl⟩
        rw [hb]
        go_wp2_with fail
        go_roundg (gk - 1)
        case measure => omega
        case rel => exact ⟨j + 1, by simp, by omega, by omega, ht.out, rfl⟩
    · have j1 : ¬ (j : Int) < (l.length : Int) := by omega
      have htk : l.take j = l := List.take_of_length_le (by omega)
      have hany := Lib.hid (show l.any p = false by have := ha.out; rwa [htk] at this)
      clear htk
      go_wp2_with fail
      go_ret
      exact ⟨⟨_, rfl, by rw [hany.out]; rfl⟩, rfl⟩
theorem Contains3_calls (q1 : Value) (p : _ → Bool) (A : Option Addr) (c : Nat) (l : List (List Int)) (w : World) (h : SlS w .i32 A c l)
    (H : ∀ B d x, SlI w .i32 B d x → Calls Try.prog 66 #[.slice B x.length d, q1] w fun e w' => e = .returned (.bool (p x)) ∧ w = w') :
    Calls Try.prog 58 #[.slice A l.length c, .func (.func 66) #[] #[q1]] w fun e w' => e = .returned (.bool (l.any p)) ∧ w = w' := by
  go_enter Try.func58, Try.ntmps58
  go_wp2_with fail
  refine (Index3_calls q1 p A c l _ h H).mono ?_
  rintro e w' ⟨⟨r, rfl, hr⟩, rfl⟩
  go_wp2_with fail
  go_ret
  exact ⟨by first | rfl | (rw [← hr]; simp), rfl⟩
theorem Index4_calls (q1 q2 : Value) (p : _ → Bool) (A : Option Addr) (c : Nat) (l : List (List (List Int))) (w : World) (h : SlB w .i32 A c l)
    (H : ∀ B d x, SlS w .i32 B d x → Calls Try.prog 65 #[.slice B x.length d, q1, q2] w fun e w' => e = .returned (.bool (p x)) ∧ w = w') :
    Calls Try.prog 70 #[.slice A l.length c, .func (.func 65) #[] #[q1,q2]] w fun e w' => (∃ r : Int, e = .returned (.int .i64 r) ∧ decide (0 ≤ r) = l.any p) ∧ w = w' := by
  have hm := h.len
  go_enter Try.func70, Try.ntmps70
  go_wp2_with fail
  go_loopg [5, 8] (l.length + 1) (fun gk u i w' => ∃ j : Nat, i = .int .i64 (j : Int) ∧ j ≤ l.length ∧ l.length < j + gk ∧ Hid ((l.take j).any p = false) ∧ w = w')
  case atStart => exact ⟨0, rfl, by omega, by omega, rfl, rfl⟩
  case round =>
    obtain ⟨j, rfl, hj, hg, ha, rfl⟩ := hrel
    by_cases hlt : j < l.length
    · have j1 : (j : Int) < (l.length : Int) := by omega
      obtain ⟨al, B, d, rfl, hc, hs⟩ := h.get j hlt
      have ht := any_take p [] hlt
      have H := H B d _ hs
      cases hb : p (l.getD j []) with
      | true =>
        have hany := Lib.hid (any_of p [] hlt hb)
        clear ht
        generalize l.getD j [] = v at *
        go_wp2_with fail
        refine H.mono ?_
        rintro e w' ⟨rfl, rfl⟩
        rw [hb]
        go_wp2_with fail
        go_ret
        exact ⟨⟨_, rfl, by rw [hany.out]; simp⟩, rfl⟩
      | false =>
        rw [ha.out, hb] at ht
        have ht := Lib.hid ht
        generalize l.getD j [] = v at *
        go_wp2_with fail
        refine H.mono ?_
        rintro e w' ⟨rfl, rfl⟩
        rw [hb]
        go_wp2_with fail
        go_roundg (gk - 1)
        case measure => omega
        case rel => exact ⟨j + 1, by simp, by omega, by omega, ht.out, rfl⟩
    · have j1 : ¬ (j : Int) < (l.length : Int) := by omega
      have htk : l.take j = l := List.take_of_length_le (by omega)
      have hany := Lib.hid (show l.any p = false by have := ha.out; rwa [htk] at this)
      clear htk
      go_wp2_with fail
      go_ret
      exact ⟨⟨_, rfl, by rw [hany.out]; rfl⟩, rfl⟩
theorem Contains4_calls (q1 q2 : Value) (p : _ → Bool) (A : Option Addr) (c : Nat) (l : List (List (List Int))) (w : World) (h : SlB w .i32 A c l)
    (H : ∀ B d x, SlS w .i32 B d x → Calls Try.prog 65 #[.slice B x.length d, q1, q2] w fun e w' => e = .returned (.bool (p x)) ∧ w = w') :
    Calls Try.prog 64 #[.slice A l.length c, .func (.func 65) #[] #[q1,q2]] w fun e w' => e = .returned (.bool (l.any p)) ∧ w = w' := by
  go_enter Try.func64, Try.ntmps64
  go_wp2_with fail
  refine (Index4_calls q1 q2 p A c l _ h H).mono ?_
  rintro e w' ⟨⟨r, rfl, hr⟩, rfl⟩
  go_wp2_with fail
  go_ret
  exact ⟨by first | rfl | (rw [← hr]; simp), rfl⟩
end Go.Proofs.Ythpgaggceefamaa
