/- wayfinderkit: Pick, Own, Same. -/
import Derived.Test.YtjdablkdndmcgaaProg
import Derived.Test.YtjdablkdndmcgaaMem
import Derived.WalkKit
import Derived.IntWalk
import Derived.Deep.QuietTactic
import Derived.BigQuiet
import Derived.Deep.LoopGhost
import Derived.Outline
namespace Go.Proofs.Ytjdablkdndmcgaa
set_option linter.unusedVariables false
set_option linter.unusedSimpArgs false
open Go.RowKit
theorem pick_neg {n m : Int} (hm : 1 ≤ m) (h : n.tmod m < 0) : n.tmod m + m = n % m := by
  have h1 := Int.mul_tdiv_add_tmod n m
  have h2 : -m < n.tmod m := by
    have h5 := Int.tmod_lt_of_pos (-n) (show 0 < m by omega)
    rw [Int.neg_tmod] at h5; omega
  have h3 : n = m * (n.tdiv m - 1) + (n.tmod m + m) := by rw [Int.mul_sub]; omega
  exact ((Int.ediv_emod_unique (a := n) (b := m) (r := n.tmod m + m) (q := n.tdiv m - 1) (by omega)).2 ⟨by omega, by omega, by omega⟩).2.symm
theorem pick_pos {n m : Int} (hm : 1 ≤ m) (h : ¬ n.tmod m < 0) : n.tmod m = n % m := by
  have h1 := Int.mul_tdiv_add_tmod n m
  have h2 : n.tmod m < m := Int.tmod_lt_of_pos n (by omega)
  exact ((Int.ediv_emod_unique (a := n) (b := m) (r := n.tmod m) (q := n.tdiv m) (by omega)).2 ⟨by omega, by omega, by omega⟩).2.symm
theorem ret_int' {k : IntKind} {a b : Int} (h : a = b) : Ending.returned (.int k a) = .returned (.int k b) := by rw [h]
theorem ret_bool {a b : Bool} (h : a = b) : Ending.returned (.bool a) = .returned (.bool b) := by rw [h]
theorem Pick_calls (n m : Int) (w : World) (hm : 1 ≤ m) (hm' : m ≤ 9223372036854775807) :
    Calls Try.prog 9 #[.int .i64 n, .int .i64 m] w fun e w' => e = .returned (.int .i64 (n % m)) ∧ w = w' := by
  by_cases h : n.tmod m < 0
  · have H := Lib.hid (pick_neg hm h)
    have k1 : 0 ≤ n.tmod m + m := by
      have h5 := Int.tmod_lt_of_pos (-n) (show 0 < m by omega)
      rw [Int.neg_tmod] at h5; omega
    go_enter Try.func9, Try.ntmps9
    go_wp2
    go_ret
    exact ⟨ret_int' (by rw [← H.out]), rfl⟩
  · have H := Lib.hid (pick_pos hm h)
    go_enter Try.func9, Try.ntmps9
    go_wp2
    go_ret
    exact ⟨ret_int' (by rw [← H.out]), rfl⟩
theorem Own_byte_calls (A : Option Addr) (c : Nat) (xs : List Int) (w : World) (h : SlI w .u8 A c xs) (hl : xs.length * 1 ≤ 140737488355328) :
    Calls Try.prog 24 #[.slice A xs.length c] w fun e w' => ∃ A' c', e = .returned (.slice A' xs.length c') ∧ OwnI w' w.heap.size 5 .u8 A' c' xs ∧ Below w.heap.size w w' := by
  go_enter Try.func24, Try.ntmps24
  go_wp2_with (at_builtin; refine app_row w.heap.size rfl _ _ 25 5 .u8 1 rfl Try.underlying25 (by kernel_rfl) (by decide) _ _ [] xs A c rfl rfl (own_empty _ _ _ (Nat.le_refl _)) (h.below (below_alloc (Below.refl _ _) _)).rd (by simp) (by simpa using hl) ?_)
  intro B1 c1 w1 hown hg _ _
  go_wp2
  go_ret
  exact ⟨_, _, rfl, hown, below_grown (below_alloc (Below.refl _ _) _) hg (own_empty _ _ _ (Nat.le_refl _)) (Nat.le_refl _)⟩
theorem Same_byte_calls (A B : Option Addr) (c d : Nat) (xs ys : List Int) (w : World) (h : SlI w .u8 A c xs) (k : SlI w .u8 B d ys) :
    Calls Try.prog 30 #[.slice A xs.length c, .slice B ys.length d] w fun e w' => e = .returned (.bool (decide (xs = ys))) ∧ ∃ n, w' = w.drewN n := by
  have hm := h.len
  have km := k.len
  by_cases hl : xs.length = ys.length
  · have hb : ((xs.length : Int) != (ys.length : Int)) = false := by simp [hl]
    have HL := Lib.hid hl
    clear hl
    go_enter Try.func30, Try.ntmps30
    go_wp2
    go_loopg [5] (xs.length + 1) (fun r i w' => ∃ j : Nat, i = .int .i64 (j : Int) ∧ j ≤ xs.length ∧ xs.length < j + r ∧ Hid (∀ t, t < j → xs.getD t 0 = ys.getD t 0) ∧ ∃ n, w' = w.drewN n)
    case atStart => exact ⟨0, rfl, by omega, by omega, fun _ h => absurd h (by omega), 0, rfl⟩
    case round =>
      obtain ⟨j, rfl, hj, hr, HE, n, rfl⟩ := hrel
      by_cases hlt : j < xs.length
      · obtain ⟨ad, rfl, hx⟩ := h.get j hlt
        obtain ⟨bd, rfl, hy⟩ := k.get j (by have := HL.out; omega)
        have hlt2 : j < ys.length := by have := HL.out; omega
        have i1 : (j : Int) < (xs.length : Int) := by omega
        have i2 : (j : Int) < (ys.length : Int) := by omega
        by_cases he : xs.getD j 0 = ys.getD j 0
        · have hb2 : (xs[j] != ys[j]) = false := by simpa [List.getD_eq_getElem?_getD, hlt, hlt2] using he
          have HE2 := Lib.hid he
          clear he
          go_wp2
          go_quiet (fail)
          go_wp2
          go_roundg (gk - 1)
          case measure => omega
          case rel => exact ⟨j + 1, by simp, by omega, by omega, fun t ht => by
            rcases Nat.lt_or_ge t j with h1 | h1
            · exact HE.out t h1
            · obtain rfl : t = j := by omega
              exact HE2.out, _, rfl⟩
        · have hb2 : (xs[j] != ys[j]) = true := by simpa [List.getD_eq_getElem?_getD, hlt, hlt2] using he
          have HF := Lib.hid (show xs ≠ ys from fun hh => he (by rw [hh]))
          clear he
          go_wp2
          go_quiet (fail)
          go_wp2
          go_ret
          exact ⟨ret_bool (decide_eq_false HF.out).symm, _, World.drewN_drewN ..⟩
      · have HF := Lib.hid (show xs = ys from List.ext_getElem HL.out fun t h1 h2 => by
          have := HE.out t (by omega)
          simpa [List.getD_eq_getElem?_getD, h1, h2] using this)
        go_wp2
        go_ret
        exact ⟨ret_bool (decide_eq_true HF.out).symm, _, rfl⟩
  · have hb : ((xs.length : Int) != (ys.length : Int)) = true := by simp; omega
    have HF := Lib.hid (show xs ≠ ys from fun hh => hl (by rw [hh]))
    clear hl
    go_enter Try.func30, Try.ntmps30
    go_wp2
    go_ret
    exact ⟨ret_bool (decide_eq_false HF.out).symm, 0, rfl⟩
theorem Same_int16_calls (A B : Option Addr) (c d : Nat) (xs ys : List Int) (w : World) (h : SlI w .i16 A c xs) (k : SlI w .i16 B d ys) :
    Calls Try.prog 13 #[.slice A xs.length c, .slice B ys.length d] w fun e w' => e = .returned (.bool (decide (xs = ys))) ∧ ∃ n, w' = w.drewN n := by
  have hm := h.len
  have km := k.len
  by_cases hl : xs.length = ys.length
  · have hb : ((xs.length : Int) != (ys.length : Int)) = false := by simp [hl]
    have HL := Lib.hid hl
    clear hl
    go_enter Try.func13, Try.ntmps13
    go_wp2
    go_loopg [5] (xs.length + 1) (fun r i w' => ∃ j : Nat, i = .int .i64 (j : Int) ∧ j ≤ xs.length ∧ xs.length < j + r ∧ Hid (∀ t, t < j → xs.getD t 0 = ys.getD t 0) ∧ ∃ n, w' = w.drewN n)
    case atStart => exact ⟨0, rfl, by omega, by omega, fun _ h => absurd h (by omega), 0, rfl⟩
    case round =>
      obtain ⟨j, rfl, hj, hr, HE, n, rfl⟩ := hrel
      by_cases hlt : j < xs.length
      · obtain ⟨ad, rfl, hx⟩ := h.get j hlt
        obtain ⟨bd, rfl, hy⟩ := k.get j (by have := HL.out; omega)
        have hlt2 : j < ys.length := by have := HL.out; omega
        have i1 : (j : Int) < (xs.length : Int) := by omega
        have i2 : (j : Int) < (ys.length : Int) := by omega
        by_cases he : xs.getD j 0 = ys.getD j 0
        · have hb2 : (xs[j] != ys[j]) = false := by simpa [List.getD_eq_getElem?_getD, hlt, hlt2] using he
          have HE2 := Lib.hid he
          clear he
          go_wp2
          go_quiet (fail)
          go_wp2
          go_roundg (gk - 1)
          case measure => omega
          case rel => exact ⟨j + 1, by simp, by omega, by omega, fun t ht => by
            rcases Nat.lt_or_ge t j with h1 | h1
            · exact HE.out t h1
            · obtain rfl : t = j := by omega
              exact HE2.out, _, rfl⟩
        · have hb2 : (xs[j] != ys[j]) = true := by simpa [List.getD_eq_getElem?_getD, hlt, hlt2] using he
          have HF := Lib.hid (show xs ≠ ys from fun hh => he (by rw [hh]))
          clear he
          go_wp2
          go_quiet (fail)
          go_wp2
          go_ret
          exact ⟨ret_bool (decide_eq_false HF.out).symm, _, World.drewN_drewN ..⟩
      · have HF := Lib.hid (show xs = ys from List.ext_getElem HL.out fun t h1 h2 => by
          have := HE.out t (by omega)
          simpa [List.getD_eq_getElem?_getD, h1, h2] using this)
        go_wp2
        go_ret
        exact ⟨ret_bool (decide_eq_true HF.out).symm, _, rfl⟩
  · have hb : ((xs.length : Int) != (ys.length : Int)) = true := by simp; omega
    have HF := Lib.hid (show xs ≠ ys from fun hh => hl (by rw [hh]))
    clear hl
    go_enter Try.func13, Try.ntmps13
    go_wp2
    go_ret
    exact ⟨ret_bool (decide_eq_false HF.out).symm, 0, rfl⟩
theorem Same_byte_b (A B : Option Addr) (c d : Nat) (xs ys : List Int) (w : World) (h : SlI w .u8 A c xs) (k : SlI w .u8 B d ys) :
    Calls Try.prog 30 #[.slice A xs.length c, .slice B ys.length d] w fun e w' => e = .returned (.bool (decide (xs = ys))) ∧ Below w.heap.size w w' :=
  (Same_byte_calls A B c d xs ys w h k).mono fun _ _ ⟨h1, n, h2⟩ => ⟨h1, h2 ▸ below_drewN (Below.refl _ _) n⟩
theorem Same_int16_b (A B : Option Addr) (c d : Nat) (xs ys : List Int) (w : World) (h : SlI w .i16 A c xs) (k : SlI w .i16 B d ys) :
    Calls Try.prog 13 #[.slice A xs.length c, .slice B ys.length d] w fun e w' => e = .returned (.bool (decide (xs = ys))) ∧ Below w.heap.size w w' :=
  (Same_int16_calls A B c d xs ys w h k).mono fun _ _ ⟨h1, n, h2⟩ => ⟨h1, h2 ▸ below_drewN (Below.refl _ _) n⟩
end Go.Proofs.Ytjdablkdndmcgaa
