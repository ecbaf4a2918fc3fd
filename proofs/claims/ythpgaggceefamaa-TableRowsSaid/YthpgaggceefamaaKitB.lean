/- wayfinderkit: LightBook, OwnBook; the law's light and book. -/
import Derived.Test.YthpgaggceefamaaKitS
import Derived.Test.YthpgaggceefamaaMemB
namespace Go.Proofs.Ythpgaggceefamaa
set_option linter.unusedVariables false
set_option linter.unusedSimpArgs false
open Go.RowKit
def lightBB (b : List (List (List Int))) (parts words long : Int) : Bool := decide ((b.length : Int) ≤ parts) && b.all fun l => lightB l words long
theorem lightBB_true {b : List (List (List Int))} {parts words long : Int} (h : lightBB b parts words long = true) : (b.length : Int) ≤ parts ∧ ∀ j, j < b.length → lightB (b.getD j []) words long = true := by
  unfold lightBB at h
  simp only [Bool.and_eq_true, decide_eq_true_eq, List.all_eq_true] at h
  refine ⟨h.1, fun j hj => h.2 _ ?_⟩
  rw [List.getD_eq_getElem?_getD, List.getElem?_eq_getElem hj]; exact List.getElem_mem hj
theorem lightBB_of {b : List (List (List Int))} {parts words long : Int} (h : (b.length : Int) ≤ parts) (h2 : ∀ j, j < b.length → lightB (b.getD j []) words long = true) : lightBB b parts words long = true := by
  unfold lightBB
  simp only [Bool.and_eq_true, decide_eq_true_eq, List.all_eq_true]
  refine ⟨h, fun l hl => ?_⟩
  obtain ⟨j, hj, rfl⟩ := List.mem_iff_getElem.1 hl
  have := h2 j hj
  rwa [List.getD_eq_getElem?_getD, List.getElem?_eq_getElem hj] at this
theorem below_box {w : World} (o : Obj) : Below w.heap.size w (w.alloc o) := below_alloc (Below.refl _ _) _
theorem LightBook_calls (A : Option Addr) (c : Nat) (b : List (List (List Int))) (p q r : Int) (w : World) (h : SlB w .i32 A c b) :
    Calls Try.prog 9 #[.agg #[.slice A b.length c], .int .i64 p, .int .i64 q, .int .i64 r] w fun e w' => e = .returned (.bool (lightBB b p q r)) ∧ Below w.heap.size w w' := by
  have hm := h.len
  by_cases h1 : (b.length : Int) > p
  · have H := Lib.hid (show lightBB b p q r = false by unfold lightBB; rw [decide_eq_false (by omega)]; rfl)
    go_enter Try.func9, Try.ntmps9
    go_wp2_with fail
    go_ret
    exact ⟨ret_bool H.out.symm, below_box _⟩
  · go_enter Try.func9, Try.ntmps9
    go_wp2_with fail
    go_loopg [9] (b.length + 1) (fun gk i w' => ∃ j : Nat, i = .int .i64 (j : Int) ∧ j ≤ b.length ∧ b.length < j + gk ∧ Hid (∀ t, t < j → lightB (b.getD t []) q r = true) ∧ Below w.heap.size w w' ∧ w'.cell? ⟨w.heap.size, 0, none⟩ = some (.slice A b.length c))
    case atStart => exact ⟨0, rfl, by omega, by omega, (fun _ h => absurd h (by omega)), below_box _, by simp⟩
    case round =>
      obtain ⟨j, rfl, hj, hg, HA, bw, hbox⟩ := hrel
      by_cases hlt : j < b.length
      · have j1 : (j : Int) < (b.length : Int) := by omega
        obtain ⟨ad, B, d, rfl, hc, hs⟩ := (h.below bw).get j hlt
        have hsl := hs.len
        cases h2 : lightB (b.getD j []) q r with
        | false =>
          have H := Lib.hid (show lightBB b p q r = false by
            cases hh : lightBB b p q r with
            | false => rfl
            | true => have := (lightBB_true hh).2 j hlt; rw [this] at h2; cases h2)
          generalize (b.getD j []) = n at *
          go_wp2_with fail
          refine (Light_int32_calls B d n q r _ hs).mono ?_
          rintro e w1 ⟨rfl, rfl⟩
          rw [h2]
          go_wp2_with fail
          go_ret
          exact ⟨ret_bool H.out.symm, bw⟩
        | true =>
          have HB := Lib.hid (show ∀ t, t < j + 1 → lightB (b.getD t []) q r = true from fun t ht => by
            rcases Nat.lt_or_ge t j with h3 | h3
            · exact HA.out t h3
            · obtain rfl : t = j := by omega
              exact h2)
          generalize (b.getD j []) = n at *
          go_wp2_with fail
          refine (Light_int32_calls B d n q r _ hs).mono ?_
          rintro e w1 ⟨rfl, rfl⟩
          rw [h2]
          go_wp2_with fail
          go_roundg (gk - 1)
          case measure => omega
          case rel => exact ⟨j + 1, by simp, by omega, by omega, HB.out, bw, hbox⟩
      · have j1 : ¬ (j : Int) < (b.length : Int) := by omega
        have H := Lib.hid (lightBB_of (by omega) (fun t ht => HA.out t (by omega)) : lightBB b p q r = true)
        go_wp2_with fail
        go_ret
        exact ⟨ret_bool H.out.symm, bw⟩
/-- The law's light. -/
theorem light_calls (A : Option Addr) (c : Nat) (t : List (List Int)) (w : World) (h : SlS w .i64 A c t) :
    Calls Try.prog 26 #[.agg #[.slice A t.length c]] w fun e w' => e = .returned (.bool (lightB t 80 300)) ∧ Below w.heap.size w w' := by
  have hm := h.len
  go_enter Try.func26, Try.ntmps26
  go_wp2_with fail
  refine (Light_int64_calls A c t 80 300 _ (h.below (below_box _))).mono ?_
  rintro e w1 ⟨rfl, rfl⟩
  go_wp2_with fail
  go_ret
  exact ⟨rfl, below_box _⟩
end Go.Proofs.Ythpgaggceefamaa
