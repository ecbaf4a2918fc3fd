import Derived.Test.YtaiibjbhblpbpaaVec0
import Derived.Laws.Rows
namespace Go.Proofs.Ytaiibjbhblpbpaa
set_option linter.unusedVariables false
set_option linter.unusedSimpArgs false
open Go.RowKit
def pairE (a b : List Int) : Int := if ckW a ≠ 0 then ckW a else if ckW b ≠ 0 then ckW b else if a.length ≠ b.length then 2 else 0
theorem pair_calls (A B : Option Addr) (ca cb : Nat) (a b : List Int) (w : World) (ha : SlI w .i32 A ca a) (hb : SlI w .i32 B cb b) :
    Calls Try.prog 31 #[.slice A a.length ca, .slice B b.length cb] w fun e w' => e = .returned (.int .i64 (pairE a b)) ∧ Below w.heap.size w w' := by
  have ma := ha.len
  have mb := hb.len
  have bW := below_alloc (Below.refl w.heap.size w) (.cells #[.slice A a.length ca, .slice B b.length cb] 28)
  have ha2 := ha.below bW
  have hb2 := hb.below bW
  have CA := CheckWide_calls A ca a _ ha2
  have CB := CheckWide_calls B cb b _ hb2
  have W0 : (w.alloc (.cells #[.slice A a.length ca, .slice B b.length cb] 28)).cell? ⟨w.heap.size, 0, none⟩ = some (.slice A a.length ca) := by rw [cell_of_row _ _ 0 _ _ _ (heap_alloc_new w _)]; rfl
  have W1 : (w.alloc (.cells #[.slice A a.length ca, .slice B b.length cb] 28)).cell? ⟨w.heap.size, 1, none⟩ = some (.slice B b.length cb) := by rw [cell_of_row _ _ 1 _ _ _ (heap_alloc_new w _)]; rfl
  by_cases h1 : ckW a = 0
  · by_cases h2 : ckW b = 0
    · rw [h1] at CA
      rw [h2] at CB
      by_cases h3 : a.length = b.length
      · have H := Lib.hid (show pairE a b = 0 by unfold pairE; simp [h1, h2, h3])
        have i3 : ((a.length : Int) != (b.length : Int)) = false := by simp [h3]
        clear h1 h2 h3
        go_enter Try.func31, Try.ntmps31
        go_wp2_with fail
        go_loopg [6, 7, 12] 3 (fun gk u6 u7 i w' => ∃ j : Nat, i = .int .i64 (j : Int) ∧ j ≤ 2 ∧ 2 < j + gk ∧ w' = w.alloc (.cells #[.slice A a.length ca, .slice B b.length cb] 28))
        case atStart => exact ⟨0, rfl, by omega, by omega, rfl⟩
        case round =>
          obtain ⟨j, rfl, hj, hg, rfl⟩ := hrel
          have hj3 : j = 0 ∨ j = 1 ∨ j = 2 := by omega
          rcases hj3 with rfl | rfl | rfl
          · go_wp2_with fail
            refine CA.mono ?_
            rintro e w' ⟨rfl, rfl⟩
            go_wp2_with fail
            go_roundg (gk - 1)
            case measure => omega
            case rel => exact ⟨1, by simp, by omega, by omega, rfl⟩
          · go_wp2_with fail
            refine CB.mono ?_
            rintro e w' ⟨rfl, rfl⟩
            go_wp2_with fail
            go_roundg (gk - 1)
            case measure => omega
            case rel => exact ⟨2, by simp, by omega, by omega, rfl⟩
          · go_wp2_with fail
            go_ret
            rw [H.out]; exact ⟨rfl, bW⟩
      · have H := Lib.hid (show pairE a b = 2 by unfold pairE; simp [h1, h2, h3])
        have i3 : ((a.length : Int) != (b.length : Int)) = true := by simp; omega
        clear h1 h2 h3
        go_enter Try.func31, Try.ntmps31
        go_wp2_with fail
        go_loopg [6, 7, 12] 3 (fun gk u6 u7 i w' => ∃ j : Nat, i = .int .i64 (j : Int) ∧ j ≤ 2 ∧ 2 < j + gk ∧ w' = w.alloc (.cells #[.slice A a.length ca, .slice B b.length cb] 28))
        case atStart => exact ⟨0, rfl, by omega, by omega, rfl⟩
        case round =>
          obtain ⟨j, rfl, hj, hg, rfl⟩ := hrel
          have hj3 : j = 0 ∨ j = 1 ∨ j = 2 := by omega
          rcases hj3 with rfl | rfl | rfl
          · go_wp2_with fail
            refine CA.mono ?_
            rintro e w' ⟨rfl, rfl⟩
            go_wp2_with fail
            go_roundg (gk - 1)
            case measure => omega
            case rel => exact ⟨1, by simp, by omega, by omega, rfl⟩
          · go_wp2_with fail
            refine CB.mono ?_
            rintro e w' ⟨rfl, rfl⟩
            go_wp2_with fail
            go_roundg (gk - 1)
            case measure => omega
            case rel => exact ⟨2, by simp, by omega, by omega, rfl⟩
          · go_wp2_with fail
            go_ret
            rw [H.out]; exact ⟨rfl, bW⟩
    · have H := Lib.hid (show pairE a b = ckW b by unfold pairE; simp [h1, h2])
      rw [h1] at CA
      generalize ckW b = eb at *
      have e1 : (eb != 0) = true := by simpa using h2
      clear h1 h2
      go_enter Try.func31, Try.ntmps31
      go_wp2_with fail
      go_loopg [6, 7, 12] 3 (fun gk u6 u7 i w' => ∃ j : Nat, i = .int .i64 (j : Int) ∧ j ≤ 1 ∧ 2 < j + gk ∧ w' = w.alloc (.cells #[.slice A a.length ca, .slice B b.length cb] 28))
      case atStart => exact ⟨0, rfl, by omega, by omega, rfl⟩
      case round =>
        obtain ⟨j, rfl, hj, hg, rfl⟩ := hrel
        have hj3 : j = 0 ∨ j = 1 := by omega
        rcases hj3 with rfl | rfl
        · go_wp2_with fail
          refine CA.mono ?_
          rintro e w' ⟨rfl, rfl⟩
          go_wp2_with fail
          go_roundg (gk - 1)
          case measure => omega
          case rel => exact ⟨1, by simp, by omega, by omega, rfl⟩
        · go_wp2_with fail
          refine CB.mono ?_
          rintro e w' ⟨rfl, rfl⟩
          go_wp2_with fail
          go_ret
          rw [H.out]; exact ⟨rfl, bW⟩
  · have H := Lib.hid (show pairE a b = ckW a by unfold pairE; simp [h1])
    generalize ckW a = ea at *
    have e1 : (ea != 0) = true := by simpa using h1
    clear h1
    go_enter Try.func31, Try.ntmps31
    go_wp2_with fail
    go_loopg [6, 7, 12] 3 (fun gk u6 u7 i w' => ∃ j : Nat, i = .int .i64 (j : Int) ∧ j ≤ 0 ∧ 2 < j + gk ∧ w' = w.alloc (.cells #[.slice A a.length ca, .slice B b.length cb] 28))
    case atStart => exact ⟨0, rfl, by omega, by omega, rfl⟩
    case round =>
      obtain ⟨j, rfl, hj, hg, rfl⟩ := hrel
      have hj3 : j = 0 := by omega
      subst hj3
      go_wp2_with fail
      refine CA.mono ?_
      rintro e w' ⟨rfl, rfl⟩
      go_wp2_with fail
      go_ret
      rw [H.out]; exact ⟨rfl, bW⟩
/-- The sum of squares of differences. -/
def dsq (a b : List Int) : Nat → Int
  | 0 => 0
  | j + 1 => dsq a b j + (a.getD j 0 - b.getD j 0) * (a.getD j 0 - b.getD j 0)
theorem ckW_ok {l : List Int} (h : ckW l = 0) : 1 ≤ l.length ∧ l.length ≤ 1024 ∧ ∀ v ∈ l, -131072 ≤ v ∧ v ≤ 131072 := by
  unfold ckW at h
  split at h
  · cases h
  · rename_i h1
    split at h
    · cases h
    · rename_i h2
      refine ⟨by omega, by omega, fun v hv => ?_⟩
      have : bey v = false := by
        cases hb : bey v with
        | false => rfl
        | true => exact absurd (show anyB l = true by unfold anyB; rw [List.any_eq_true]; exact ⟨v, hv, hb⟩) h2
      unfold bey at this
      simp at this
      omega
theorem pairE_ok {a b : List Int} (h : pairE a b = 0) : ckW a = 0 ∧ ckW b = 0 ∧ a.length = b.length := by
  unfold pairE at h
  split at h
  · contradiction
  · rename_i h1
    split at h
    · contradiction
    · rename_i h2
      split at h
      · cases h
      · rename_i h3
        exact ⟨by simpa using h1, by simpa using h2, by simpa using h3⟩
theorem getD_mem {l : List Int} {j : Nat} (h : j < l.length) : l.getD j 0 ∈ l := by rw [List.getD_eq_getElem?_getD, List.getElem?_eq_getElem h]; exact List.getElem_mem h
theorem dsq_bd {a b : List Int} (ha : ∀ v ∈ a, -131072 ≤ v ∧ v ≤ 131072) (hb : ∀ v ∈ b, -131072 ≤ v ∧ v ≤ 131072) (j : Nat) (h1 : j ≤ a.length) (h2 : j ≤ b.length) : 0 ≤ dsq a b j ∧ dsq a b j ≤ (j : Int) * 68719476736 := by
  induction j with
  | zero => simp [dsq]
  | succ j ih =>
    have h := ih (by omega) (by omega)
    have x := ha _ (getD_mem (show j < a.length by omega))
    have y := hb _ (getD_mem (show j < b.length by omega))
    rw [dsq]
    generalize a.getD j 0 = u at *
    generalize b.getD j 0 = v at *
    have d1 : -262144 ≤ u - v ∧ u - v ≤ 262144 := by omega
    generalize u - v = d at *
    have e1 : 0 ≤ d * d := by
      rcases Int.le_total 0 d with h | h
      · exact Int.mul_nonneg h h
      · have := Int.mul_nonneg (show 0 ≤ -d by omega) (show 0 ≤ -d by omega)
        grind
    have e2 : d * d ≤ 68719476736 := by
      have := Int.mul_nonneg (show 0 ≤ 262144 - d by omega) (show 0 ≤ 262144 + d by omega)
      grind
    push_cast
    omega
end Go.Proofs.Ytaiibjbhblpbpaa
