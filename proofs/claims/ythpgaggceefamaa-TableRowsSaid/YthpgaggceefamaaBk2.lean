/- book.Check, Dim. -/
import Derived.Test.YthpgaggceefamaaBk1
import Derived.Deep.QuietTactic
import Derived.BigQuiet
namespace Go.Proofs.Ythpgaggceefamaa
set_option linter.unusedVariables false
set_option linter.unusedSimpArgs false
open Go.RowKit
theorem far_calls (B : Option Addr) (d : Nat) (v : List Int) (w : World) (h : SlI w .i32 B d v) :
    Calls Try.prog 59 #[.slice B v.length d] w fun e w' => e = .returned (.bool (far v)) ∧ w = w' := by
  have CC := CheckWide_calls B d v w h
  have H := Lib.hid (show far v = (ckW v != 0) by unfold far; by_cases hh : ckW v = 0 <;> simp [hh])
  generalize ckW v = x at *
  go_enter Try.func59, Try.ntmps59
  go_wp2_with fail
  refine CC.mono ?_
  rintro e w1 ⟨rfl, rfl⟩
  go_wp2_with fail
  go_ret
  exact ⟨ret_bool H.out.symm, rfl⟩
theorem BCheck_calls (A : Option Addr) (c : Nat) (b : List (List (List Int))) (w : World) (h : SlB w .i32 A c b) :
    Calls Try.prog 39 #[.agg #[.slice A b.length c]] w fun e w' => e = .returned (.int .i64 (ckB b)) ∧ Below w.heap.size w w' := by
  have hm := h.len
  have b1 := below_alloc (Below.refl w.heap.size w) (.cells #[.slice A b.length c] 24)
  have hbox := box_cell (w := w) 24 (.slice A b.length c)
  have SC := shaped_calls A c b _ (h.below b1)
  cases hs : shB b with
  | false =>
    have H := Lib.hid (show ckB b = 2 by unfold ckB; rw [if_pos hs])
    rw [hs] at SC
    go_enter Try.func39, Try.ntmps39
    go_wp2_with fail
    refine SC.mono ?_
    rintro e w1 ⟨rfl, b2⟩
    go_wp2_with fail
    go_ret
    rw [H.out]; exact ⟨rfl, below_trans b1 b2⟩
  | true =>
    have HC := Lib.hid (show ckB b = if b.any (fun l => l.any far) then 11 else 0 by unfold ckB; rw [if_neg (by rw [hs]; decide)])
    rw [hs] at SC
    clear hs
    go_enter Try.func39, Try.ntmps39
    go_wp2_with fail
    refine SC.mono ?_
    rintro e w1 ⟨rfl, b2⟩
    have hbox2 := cell_below b2 _ _ hbox
    have b3 := below_trans b1 b2
    clear b1 b2 hbox SC
    go_wp2_with fail
    go_loopg [4, 11] (b.length + 1) (fun gk u i w' => ∃ j : Nat, i = .int .i64 (j : Int) ∧ j ≤ b.length ∧ b.length < j + gk ∧ Hid ((b.take j).any (fun l => l.any far) = false) ∧ w1 = w')
    case atStart => exact ⟨0, rfl, by omega, by omega, rfl, rfl⟩
    case round =>
      obtain ⟨j, rfl, hj, hg, ha, rfl⟩ := hrel
      by_cases hlt : j < b.length
      · have j1 : (j : Int) < (b.length : Int) := by omega
        obtain ⟨al, E, d, rfl, hc, hs⟩ := (h.below b3).get j hlt
        have ht := any_take (fun l : List (List Int) => l.any far) [] hlt
        have H := Contains2_calls far E d _ w1 hs fun B d x hx => far_calls B d x w1 hx
        cases hb : (b.getD j []).any far with
        | true =>
          have hany := Lib.hid (any_of (fun l : List (List Int) => l.any far) [] hlt hb)
          rw [hb] at H
          clear ht hb hs
          generalize b.getD j [] = v at *
          go_wp2_with fail
          refine H.mono ?_
          rintro e w' ⟨rfl, rfl⟩
          go_wp2_with fail
          go_ret
          rw [HC.out, hany.out]; exact ⟨rfl, b3⟩
        | false =>
          rw [ha.out, hb] at ht
          have ht := Lib.hid ht
          rw [hb] at H
          clear hb hs
          generalize b.getD j [] = v at *
          go_wp2_with fail
          refine H.mono ?_
          rintro e w' ⟨rfl, rfl⟩
          go_wp2_with fail
          go_roundg (gk - 1)
          case measure => omega
          case rel => exact ⟨j + 1, by simp, by omega, by omega, ht.out, rfl⟩
      · have j1 : ¬ (j : Int) < (b.length : Int) := by omega
        have htk : b.take j = b := List.take_of_length_le (by omega)
        have hany := Lib.hid (show b.any (fun l => l.any far) = false by have := ha.out; rwa [htk] at this)
        clear htk
        go_wp2_with fail
        go_ret
        rw [HC.out, hany.out]; exact ⟨rfl, b3⟩
theorem ckB_cases (b : List (List (List Int))) : ckB b = 0 ∨ ckB b = 2 ∨ ckB b = 11 := by unfold ckB; split; exact .inr (.inl rfl); split; exact .inr (.inr rfl); exact .inl rfl
/-- What a valid book is. -/
theorem ckB_ok {b : List (List (List Int))} (h : ckB b = 0) : 1 ≤ b.length ∧ 1 ≤ n0B b ∧ n0B b ≤ 256 ∧ 1 ≤ wdB b ∧ b.length * wdB b ≤ 1024 ∧ b.length ≤ 1024 ∧ wdB b ≤ 1024 ∧
    ∀ j, j < b.length → (b.getD j []).length = n0B b ∧ ∀ i, i < (b.getD j []).length → ((b.getD j []).getD i []).length = wdB b ∧ ckW ((b.getD j []).getD i []) = 0 := by
  unfold ckB at h
  split at h
  · cases h
  · rename_i hs
    split at h
    · cases h
    · rename_i hf
      have hs : shB b = true := by cases hh : shB b with
        | true => rfl
        | false => exact absurd hh hs
      unfold shB at hs
      simp only [Bool.and_eq_true, Bool.not_eq_true', decide_eq_false_iff_not] at hs
      obtain ⟨h1, h2⟩ := hs
      have hmul : b.length * wdB b = wdB b * b.length := Nat.mul_comm _ _
      refine ⟨by omega, by omega, by omega, by omega, by omega, by omega, by omega, fun j hj => ?_⟩
      have m1 : b.getD j [] ∈ b := by rw [List.getD_eq_getElem?_getD, List.getElem?_eq_getElem hj]; exact List.getElem_mem hj
      rw [List.any_eq_false] at h2
      have h3 := h2 _ m1
      unfold badL at h3
      simp only [Bool.or_eq_true, decide_eq_true_eq, not_or, Decidable.not_not, Bool.not_eq_true, List.any_eq_false] at h3
      refine ⟨h3.1, fun i hi => ?_⟩
      have m2 : (b.getD j []).getD i [] ∈ b.getD j [] := by rw [List.getD_eq_getElem?_getD (l := b.getD j []), List.getElem?_eq_getElem hi]; exact List.getElem_mem hi
      have h4 := h3.2 _ m2
      unfold badV at h4
      refine ⟨by simpa using h4, ?_⟩
      simp only [Bool.not_eq_true, List.any_eq_false] at hf
      have h5 := hf _ m1
      have h6 := h5 _ m2
      unfold far at h6
      simpa using h6
theorem Dim_calls (A : Option Addr) (c : Nat) (b : List (List (List Int))) (w : World) (h : SlB w .i32 A c b) :
    Calls Try.prog 41 #[.agg #[.slice A b.length c]] w fun e w' => e = .returned (.int .i64 (dimB b)) ∧ Below w.heap.size w w' := by
  have b1 := below_alloc (Below.refl w.heap.size w) (.cells #[.slice A b.length c] 24)
  have hbox := box_cell (w := w) 24 (.slice A b.length c)
  have SC := BCheck_calls A c b _ (h.below b1)
  by_cases h0 : ckB b = 0
  · have H := Lib.hid (show dimB b = (b.length : Int) * (wdB b : Int) by unfold dimB; rw [if_neg (by rw [h0]; decide)]; exact Int.natCast_mul _ _)
    obtain ⟨l1, l2, l3, l4, l5, l6, l7, _⟩ := ckB_ok h0
    obtain ⟨a0, E, k, rfl, hx0, hs0⟩ := h.get 0 (by omega)
    rw [show a0.add 0 = a0 from rfl, show (b.getD 0 []).length = n0B b from rfl] at hx0
    obtain ⟨e0, G, q, rfl, hy0, hv0⟩ := hs0.get 0 (show 0 < n0B b by omega)
    rw [show e0.add 0 = e0 from rfl, show ((b.getD 0 []).getD 0 []).length = wdB b from rfl] at hy0
    have i1 : (0 : Int) < (b.length : Int) := by omega
    have i2 : (0 : Int) < (n0B b : Int) := by omega
    have hcast : ((b.length * wdB b : Nat) : Int) = (b.length : Int) * (wdB b : Int) := Int.natCast_mul _ _
    have i3 : 0 ≤ (b.length : Int) * (wdB b : Int) ∧ (b.length : Int) * (wdB b : Int) ≤ 1024 := by omega
    rw [h0] at SC
    clear h0 hcast l5
    go_enter Try.func41, Try.ntmps41
    go_wp2_with fail
    refine SC.mono ?_
    rintro e w1 ⟨rfl, b2⟩
    have hbox2 := cell_below b2 _ _ hbox
    have b3 := below_trans b1 b2
    have hx := cell_below b3 _ _ hx0
    have hy := cell_below b3 _ _ hy0
    clear b1 b2 hbox SC hs0 hv0
    generalize wdB b = m at *
    generalize n0B b = n at *
    go_wp2_with fail
    go_quiet (fail)
    go_wp2_with fail
    go_ret
    exact ⟨ret_int' H.out.symm, below_drewN b3 _⟩
  · have H := Lib.hid (show dimB b = 0 by unfold dimB; rw [if_pos h0])
    generalize ckB b = x at *
    have i0 : (x != 0) = true := by simpa using h0
    clear h0
    go_enter Try.func41, Try.ntmps41
    go_wp2_with fail
    refine SC.mono ?_
    rintro e w1 ⟨rfl, b2⟩
    go_wp2_with fail
    go_ret
    rw [H.out]; exact ⟨rfl, below_trans b1 b2⟩
end Go.Proofs.Ythpgaggceefamaa
