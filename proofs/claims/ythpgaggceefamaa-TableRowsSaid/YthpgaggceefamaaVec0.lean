import Derived.Test.YthpgaggceefamaaProg
import Derived.Test.YthpgaggceefamaaMem
import Derived.WalkKit
import Derived.IntWalk
import Derived.Deep.QuietTactic
import Derived.BigQuiet
import Derived.Deep.LoopGhost
import Derived.Outline
namespace Go.Proofs.Ythpgaggceefamaa
set_option linter.unusedVariables false
set_option linter.unusedSimpArgs false
open Go.RowKit
def bey (x : Int) : Bool := decide (x < -131072) || decide (x > 131072)
theorem beyond_calls (x : Int) (w : World) : Calls Try.prog 61 #[.int .i32 x] w fun e w' => e = .returned (.bool (bey x)) ∧ w = w' := by
  unfold bey
  by_cases h : x < -131072
  · go_enter Try.func61, Try.ntmps61
    go_wp2_with fail
    go_ret
    exact ⟨by simp [h], rfl⟩
  · by_cases h2 : x > 131072
    all_goals
      go_enter Try.func61, Try.ntmps61
      go_wp2_with fail
      go_ret
      exact ⟨by simp [h, h2], rfl⟩
/-- Is one of them too great? -/
def anyB (l : List Int) : Bool := l.any bey
theorem anyB_take {l : List Int} {j : Nat} (h : j < l.length) : anyB (l.take (j + 1)) = (anyB (l.take j) || bey (l.getD j 0)) := by
  unfold anyB
  rw [List.take_add_one, List.getElem?_eq_getElem h, List.getD_eq_getElem?_getD, List.getElem?_eq_getElem h, List.any_append]
  simp
theorem anyB_of {l : List Int} {j : Nat} (h : j < l.length) (hb : bey (l.getD j 0) = true) : anyB l = true := by
  unfold anyB
  rw [List.any_eq_true]
  rw [List.getD_eq_getElem?_getD, List.getElem?_eq_getElem h] at hb
  exact ⟨_, List.getElem_mem h, hb⟩
theorem Index_calls (A : Option Addr) (c : Nat) (l : List Int) (w : World) (h : SlI w .i32 A c l) :
    Calls Try.prog 68 #[.slice A l.length c, .func (.func 61) #[] #[]] w fun e w' => (∃ r : Int, e = .returned (.int .i64 r) ∧ decide (0 ≤ r) = anyB l) ∧ w = w' := by
  have hm := h.len
  go_enter Try.func68, Try.ntmps68
  go_wp2_with fail
  go_loopg [5, 8] (l.length + 1) (fun gk u i w' => ∃ j : Nat, i = .int .i64 (j : Int) ∧ j ≤ l.length ∧ l.length < j + gk ∧ Hid (anyB (l.take j) = false) ∧ w = w')
  case atStart => exact ⟨0, rfl, by omega, by omega, rfl, rfl⟩
  case round =>
    obtain ⟨j, rfl, hj, hg, ha, rfl⟩ := hrel
    by_cases hlt : j < l.length
    · have j1 : (j : Int) < (l.length : Int) := by omega
      obtain ⟨al, rfl, hc⟩ := h.get j hlt
      have ht := anyB_take hlt
      cases hb : bey (l.getD j 0) with
      | true =>
        have hany := Lib.hid (anyB_of hlt hb)
        generalize l.getD j 0 = v at *
        go_wp2_with fail
        refine (beyond_calls v _).mono ?_
        rintro e w' ⟨rfl, rfl⟩
        rw [hb]
        go_wp2_with fail
        go_ret
        exact ⟨⟨_, rfl, by rw [hany.out]; simp⟩, rfl⟩
      | false =>
        rw [ha.out, hb] at ht
        have ht := Lib.hid ht
        generalize l.getD j 0 = v at *
        go_wp2_with fail
        refine (beyond_calls v _).mono ?_
        rintro e w' ⟨rfl, rfl⟩
        rw [hb]
        go_wp2_with fail
        go_roundg (gk - 1)
        case measure => omega
        case rel => exact ⟨j + 1, by simp, by omega, by omega, ht.out, rfl⟩
    · have j1 : ¬ (j : Int) < (l.length : Int) := by omega
      have htk : l.take j = l := List.take_of_length_le (by omega)
      have hany := Lib.hid (show anyB l = false by have := ha.out; rwa [htk] at this)
      clear htk
      go_wp2_with fail
      go_ret
      exact ⟨⟨_, rfl, by rw [hany.out]; rfl⟩, rfl⟩
theorem Contains_calls (A : Option Addr) (c : Nat) (l : List Int) (w : World) (h : SlI w .i32 A c l) :
    Calls Try.prog 60 #[.slice A l.length c, .func (.func 61) #[] #[]] w fun e w' => e = .returned (.bool (anyB l)) ∧ w = w' := by
  go_enter Try.func60, Try.ntmps60
  go_wp2_with fail
  refine (Index_calls A c l _ h).mono ?_
  rintro e w' ⟨⟨r, rfl, hr⟩, rfl⟩
  go_wp2_with fail
  go_ret
  exact ⟨by first | rfl | (rw [← hr]; simp), rfl⟩
/-- What CheckWide answers. -/
def ckW (l : List Int) : Int := if l.length < 1 ∨ l.length > 1024 then 2 else if anyB l then 11 else 0
theorem CheckWide_calls (A : Option Addr) (c : Nat) (l : List Int) (w : World) (h : SlI w .i32 A c l) :
    Calls Try.prog 40 #[.slice A l.length c] w fun e w' => e = .returned (.int .i64 (ckW l)) ∧ w = w' := by
  have hm := h.len
  by_cases h1 : l.length < 1
  · have H := Lib.hid (show ckW l = 2 by unfold ckW; rw [if_pos (.inl h1)])
    have i1 : (l.length : Int) < 1 := by omega
    go_enter Try.func40, Try.ntmps40
    go_wp2_with fail
    go_ret
    rw [H.out]; exact ⟨rfl, rfl⟩
  · by_cases h2 : l.length > 1024
    · have H := Lib.hid (show ckW l = 2 by unfold ckW; rw [if_pos (.inr h2)])
      have i1 : ¬ (l.length : Int) < 1 := by omega
      have i2 : (l.length : Int) > 1024 := by omega
      go_enter Try.func40, Try.ntmps40
      go_wp2_with fail
      go_ret
      rw [H.out]; exact ⟨rfl, rfl⟩
    · have i1 : ¬ (l.length : Int) < 1 := by omega
      have i2 : ¬ (l.length : Int) > 1024 := by omega
      cases hany : anyB l with
      | true =>
        have H := Lib.hid (show ckW l = 11 by unfold ckW; rw [if_neg (by omega), if_pos hany])
        go_enter Try.func40, Try.ntmps40
        go_wp2_with fail
        refine (Contains_calls A c l _ h).mono ?_
        rintro e w' ⟨rfl, rfl⟩
        rw [hany]
        go_wp2_with fail
        go_ret
        rw [H.out]; exact ⟨rfl, rfl⟩
      | false =>
        have H := Lib.hid (show ckW l = 0 by unfold ckW; rw [if_neg (by omega), if_neg (by rw [hany]; decide)])
        go_enter Try.func40, Try.ntmps40
        go_wp2_with fail
        refine (Contains_calls A c l _ h).mono ?_
        rintro e w' ⟨rfl, rfl⟩
        rw [hany]
        go_wp2_with fail
        go_ret
        rw [H.out]; exact ⟨rfl, rfl⟩
end Go.Proofs.Ythpgaggceefamaa
