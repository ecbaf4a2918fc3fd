/- CmdRN: the reference's Name, Word. -/
import Derived.Test.YtjdablkdndmcgaaCmdN
namespace Go.Proofs.Ytjdablkdndmcgaa
set_option linter.unusedVariables false
set_option linter.unusedSimpArgs false
open Go.RowKit
theorem RName_calls (n : Int) (w : World) :
    Calls Try.prog 33 #[.int .i64 n] w fun e w' => e = .returned (.string (wordS n nameL)) ∧ Below w.heap.size w w' := by
  have hb := below_box0 w (.cells (nameL.tail.map Value.string).toArray 9)
  have hr : ∀ j u, (nameL.tail.map Value.string)[j]? = some u → (w.alloc (.cells (nameL.tail.map Value.string).toArray 9)).cell? ((⟨w.heap.size, 0, none⟩ : Addr).add j) = some u := World.news_of_block (cs := (nameL.tail.map Value.string).toArray) (t := 9) (fr := (0, 0)) (heap_alloc_new w _)
  have HB := Lib.hid hb
  clear hb
  by_cases h1 : n < 1
  · have e : wordS n nameL = str [] := by
      unfold wordS
      by_cases h0 : n < 0
      · rw [if_pos (.inl h0)]
      · have : n = 0 := by omega
        subst this
        rfl
    rw [e]
    clear hr
    go_enter Try.func33, Try.ntmps33
    go_wp2_with fail
    go_ret
    exact ⟨rfl, HB.out⟩
  by_cases h2 : 12 < n
  · have e : wordS n nameL = str [] := by unfold wordS; rw [if_pos (.inr (show ((13 : Nat) : Int) ≤ n by omega))]
    rw [e]
    clear hr
    go_enter Try.func33, Try.ntmps33
    go_wp2_with fail
    go_ret
    exact ⟨rfl, HB.out⟩
  obtain ⟨k, hk⟩ : ∃ k : Nat, n = (k : Int) + 1 := ⟨(n - 1).toNat, by omega⟩
  subst hk
  have hk12 : k < 12 := by omega
  clear hr
  have h3 : ((k : Int) + 1) ≤ 12 := by omega
  have h4 : (k : Int) < 12 := by omega
  go_enter Try.func33, Try.ntmps33
  go_wp2_with fail
  go_ret
  refine ⟨?_, HB.out⟩
  rcases (by omega : k = 0 ∨ k = 1 ∨ k = 2 ∨ k = 3 ∨ k = 4 ∨ k = 5 ∨ k = 6 ∨ k = 7 ∨ k = 8 ∨ k = 9 ∨ k = 10 ∨ k = 11) with rfl | rfl | rfl | rfl | rfl | rfl | rfl | rfl | rfl | rfl | rfl | rfl <;> rfl
theorem RWord_calls (n : Int) (w : World) :
    Calls Try.prog 34 #[.int .i64 n] w fun e w' => e = .returned (.string (wordS n wordL)) ∧ Below w.heap.size w w' := by
  have hb := below_box0 w (.cells (wordL.map Value.string).toArray 9)
  have hr : ∀ j u, (wordL.map Value.string)[j]? = some u → (w.alloc (.cells (wordL.map Value.string).toArray 9)).cell? ((⟨w.heap.size, 0, none⟩ : Addr).add j) = some u := World.news_of_block (cs := (wordL.map Value.string).toArray) (t := 9) (fr := (0, 0)) (heap_alloc_new w _)
  have HB := Lib.hid hb
  clear hb
  by_cases h1 : n < 0
  · have e : wordS n wordL = str [] := by unfold wordS; rw [if_pos (.inl h1)]
    rw [e]
    clear hr
    go_enter Try.func34, Try.ntmps34
    go_wp2_with fail
    go_ret
    exact ⟨rfl, HB.out⟩
  by_cases h2 : 10 ≤ n
  · have e : wordS n wordL = str [] := by unfold wordS; rw [if_pos (.inr (show ((10 : Nat) : Int) ≤ n by omega))]
    rw [e]
    clear hr
    go_enter Try.func34, Try.ntmps34
    go_wp2_with fail
    go_ret
    exact ⟨rfl, HB.out⟩
  obtain ⟨k, rfl⟩ := Int.eq_ofNat_of_zero_le (show 0 ≤ n by omega)
  have hk10 : k < 10 := by omega
  clear hr
  have h4 : (k : Int) < 10 := by omega
  go_enter Try.func34, Try.ntmps34
  go_wp2_with fail
  go_ret
  refine ⟨?_, HB.out⟩
  rcases (by omega : k = 0 ∨ k = 1 ∨ k = 2 ∨ k = 3 ∨ k = 4 ∨ k = 5 ∨ k = 6 ∨ k = 7 ∨ k = 8 ∨ k = 9) with rfl | rfl | rfl | rfl | rfl | rfl | rfl | rfl | rfl | rfl <;> rfl
end Go.Proofs.Ytjdablkdndmcgaa
