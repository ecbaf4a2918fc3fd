/- table.Check, Sum, Least, Row, Same. -/
import Derived.Test.YthpgaggceefamaaTab1
import Derived.Test.YthpgaggceefamaaFind
import Derived.Test.YthpgaggceefamaaKitS
import Derived.Test.YthpgaggceefamaaLit
import Derived.RangeFuncNested
import Derived.WalkSpells

namespace Go.Proofs.Ythpgaggceefamaa
set_option linter.unusedVariables false
set_option linter.unusedSimpArgs false
open Go.RowKit

theorem TCheck_calls (A : Option Addr) (c : Nat) (t : List (List Int)) (w : World) (h : SlS w .i64 A c t) :
    Calls Try.prog 15 #[.agg #[.slice A t.length c]] w fun e w' => e = .returned (.int .i64 (ckT t)) ∧ Below w.heap.size w w' := by
  have hm := h.len
  by_cases h1 : t.length < 1
  · have H := Lib.hid (show ckT t = 2 by unfold ckT; rw [if_pos (.inl h1)])
    have i1 : (t.length : Int) < 1 := by omega
    go_enter Try.func15, Try.ntmps15
    go_wp2_with fail
    go_ret
    rw [H.out]; exact ⟨rfl, below_alloc (Below.refl _ _) _⟩
  · have i1 : ¬ (t.length : Int) < 1 := by omega
    by_cases h2 : t.length > 1024
    · have H := Lib.hid (show ckT t = 2 by unfold ckT; rw [if_pos (.inr (.inl h2))])
      have i2 : (t.length : Int) > 1024 := by omega
      go_enter Try.func15, Try.ntmps15
      go_wp2_with fail
      go_ret
      rw [H.out]; exact ⟨rfl, below_alloc (Below.refl _ _) _⟩
    · have i2 : ¬ (t.length : Int) > 1024 := by omega
      have CC := fun w h => Contains1_calls badR A c t w h fun B d x hx => bad_calls B d x w hx
      cases hb : t.any badR with
      | true =>
        have H := Lib.hid (show ckT t = 2 by unfold ckT; rw [if_pos (.inr (.inr hb))])
        rw [hb] at CC
        clear hb
        go_enter Try.func15, Try.ntmps15
        go_wp2_with fail
        refine (CC _ (h.below (below_alloc (Below.refl _ _) _))).mono ?_
        rintro e w1 ⟨rfl, rfl⟩
        go_wp2_with fail
        go_ret
        rw [H.out]; exact ⟨rfl, below_alloc (Below.refl _ _) _⟩
      | false =>
        have H := Lib.hid (show ckT t = 0 by unfold ckT; rw [if_neg (by rintro (x | x | x); exact h1 x; exact h2 x; rw [hb] at x; cases x)])
        rw [hb] at CC
        clear hb
        go_enter Try.func15, Try.ntmps15
        go_wp2_with fail
        refine (CC _ (h.below (below_alloc (Below.refl _ _) _))).mono ?_
        rintro e w1 ⟨rfl, rfl⟩
        go_wp2_with fail
        go_ret
        rw [H.out]; exact ⟨rfl, below_alloc (Below.refl _ _) _⟩
theorem TSum_calls (A B : Option Addr) (c d : Nat) (t : List (List Int)) (code : List Int) (w : World) (h : SlS w .i64 A c t) (k : SlI w .u8 B d code) (hk : ∀ x ∈ code, 0 ≤ x ∧ x ≤ 255) :
    Calls Try.prog 17 #[.agg #[.slice A t.length c], .slice B code.length d] w fun e w' => e = .returned (.tuple #[.int .i64 (sumT t code).1, .int .i64 (sumT t code).2]) ∧ Below w.heap.size w w' := by
  have hm := h.len
  have km := k.len
  have CC := fun w h => TCheck_calls A c t w h
  by_cases h1 : ckT t = 0
  · rw [h1] at CC
    by_cases h2 : code.length = t.length
    · have i2 : ((code.length : Int) != (t.length : Int)) = false := by simp [h2]
      have H2 := Lib.hid h2
      have H1 := Lib.hid h1
      have HK := Lib.hid hk
      clear h1 h2 hk
      go_enter Try.func17, Try.ntmps17
      go_wp2_with fail
      refine (CC _ (h.below (below_alloc (Below.refl _ _) _))).mono ?_
      rintro e w1 ⟨rfl, b1⟩
      have hbox := cell_below b1 _ _ (box_cell 35 _)
      have b2 := below_trans (below_alloc (Below.refl _ _) _) b1
      clear b1
      go_wp2_with fail
      go_loopg [7, 8, 9, 23] (code.length + 1) (fun gk n u1 u2 i w' => ∃ j : Nat, i = .int .i64 (j : Int) ∧ n = .int .i64 (sumN t code j) ∧ j ≤ code.length ∧ code.length < j + gk ∧ Hid (∀ p, p < j → code.getD p 0 < ((t.getD p []).length : Int)) ∧ w' = w1)
      case atStart => exact ⟨0, rfl, rfl, by omega, by omega, (fun _ hh => absurd hh (by omega)), rfl⟩
      case round =>
        obtain ⟨j, rfl, rfl, hj, hg, HF, rfl⟩ := hrel
        by_cases hlt : j < code.length
        · have j1 : (j : Int) < (code.length : Int) := by omega
          have hlt2 : j < t.length := by rw [← H2.out]; exact hlt
          have j2 : (j : Int) < (t.length : Int) := by omega
          obtain ⟨al, rfl, hc⟩ := (k.below b2).get j hlt
          obtain ⟨at', E, d', rfl, hc2, hs⟩ := (h.below b2).get j hlt2
          have hx := HK.out (code.getD j 0) (by rw [List.getD_eq_getElem?_getD, List.getElem?_eq_getElem hlt]; exact List.getElem_mem hlt)
          by_cases hf : code.getD j 0 < ((t.getD j []).length : Int)
          · have HF2 := Lib.hid (show ∀ p, p < j + 1 → code.getD p 0 < ((t.getD p []).length : Int) from fun p hp => by
              rcases Nat.lt_or_ge p j with h3 | h3
              · exact HF.out p h3
              · obtain rfl : p = j := by omega
                exact hf)
            have bd := sumN_bd H1.out (fun x hx => (HK.out x hx).1) j (by omega) (by omega) HF.out
            have bd2 := sumN_bd H1.out (fun x hx => (HK.out x hx).1) (j + 1) (by omega) (by omega) HF2.out
            have hS := Lib.hid (show sumN t code (j + 1) = sumN t code j + (t.getD j []).getD (code.getD j 0).toNat 0 from rfl)
            rw [hS.out] at bd2
            obtain ⟨ae, rfl, hc3⟩ := hs.get (code.getD j 0).toNat (by omega)
            have tl := hm
            have jl : (j : Int) ≤ 1024 := by have := (ckT_ok H1.out).2.1; omega
            generalize code.getD j 0 = x at *
            generalize (t.getD j []).getD x.toNat 0 = y at *
            generalize (t.getD j []).length = n at *
            generalize sumN t code j = s at *
            go_wp2_with fail
            go_roundg (gk - 1)
            case measure => omega
            case rel => exact ⟨j + 1, by simp, by rw [hS.out], by omega, by omega, HF2.out, rfl⟩
          · have H := Lib.hid (show sumT t code = (0, 2) by unfold sumT; rw [if_pos (.inr (.inr fun hh => hf (hh j hlt)))])
            generalize code.getD j 0 = x at *
            generalize (t.getD j []).length = n at *
            go_wp2_with fail
            go_ret2
            rw [H.out]; exact ⟨rfl, b2⟩
        · have j1 : ¬ (j : Int) < (code.length : Int) := by omega
          have hjl : j = code.length := by omega
          have H := Lib.hid (show sumT t code = (sumN t code j, 0) by
            unfold sumT
            rw [if_neg, hjl]
            rintro (hh | hh | hh)
            · exact hh H1.out
            · exact hh H2.out
            · exact hh (fun p hp => HF.out p (by omega)))
          clear hjl
          go_wp2_with fail
          go_ret2
          rw [H.out]; exact ⟨rfl, b2⟩
    · have H := Lib.hid (show sumT t code = (0, 2) by unfold sumT; rw [if_pos (.inr (.inl h2))])
      have i2 : ((code.length : Int) != (t.length : Int)) = true := by simp; omega
      clear h1 h2
      go_enter Try.func17, Try.ntmps17
      go_wp2_with fail
      refine (CC _ (h.below (below_alloc (Below.refl _ _) _))).mono ?_
      rintro e w1 ⟨rfl, b1⟩
      have hbox := cell_below b1 _ _ (box_cell 35 _)
      have b2 := below_trans (below_alloc (Below.refl _ _) _) b1
      clear b1
      go_wp2_with fail
      go_ret2
      rw [H.out]; exact ⟨rfl, b2⟩
  · have H := Lib.hid (show sumT t code = (0, 2) by unfold sumT; rw [if_pos (.inl h1)])
    rw [ckT_two h1] at CC
    clear h1
    go_enter Try.func17, Try.ntmps17
    go_wp2_with fail
    refine (CC _ (h.below (below_alloc (Below.refl _ _) _))).mono ?_
    rintro e w1 ⟨rfl, b1⟩
    have b2 := below_trans (below_alloc (Below.refl _ _) _) b1
    clear b1
    go_wp2_with fail
    go_ret2
    rw [H.out]; exact ⟨rfl, b2⟩
theorem argT_take {t : List (List Int)} {j : Nat} (h : j < t.length) : argT (t.take (j + 1)) = argT (t.take j) ++ [((argN (t.getD j []) ((t.getD j []).length - 1) : Nat) : Int)] := by
  unfold argT
  rw [List.take_add_one, List.getElem?_eq_getElem h, List.getD_eq_getElem?_getD, List.getElem?_eq_getElem h, List.map_append]
  rfl
theorem TLeast_calls (A : Option Addr) (c : Nat) (t : List (List Int)) (w : World) (h : SlS w .i64 A c t) :
    Calls Try.prog 20 #[.agg #[.slice A t.length c]] w fun e w' => ∃ A' c', e = .returned (.tuple #[.int .i64 (leastT t).1, .slice A' (leastT t).2.length c']) ∧ OwnI w' w.heap.size 5 .u8 A' c' (leastT t).2 ∧ Below w.heap.size w w' := by
  have hm := h.len
  have CC := fun w h => TCheck_calls A c t w h
  by_cases h1 : ckT t = 0
  · rw [h1] at CC
    have H1 := Lib.hid h1
    have hl := (ckT_ok h1).2.1
    clear h1
    go_enter Try.func20, Try.ntmps20
    go_wp2_with fail
    refine (CC _ (h.below (below_alloc (Below.refl _ _) _))).mono ?_
    rintro e w1 ⟨rfl, b1⟩
    have hbox := cell_below b1 _ _ (box_cell 35 _)
    have b2 := below_trans (below_alloc (Below.refl _ _) _) b1
    clear b1
    go_wp2_with fail
    go_loopg [2, 3, 5, 6, 13] (t.length + 1) (fun gk n o u1 u2 i w' => ∃ (j : Nat) (A1 : Option Addr) (c1 : Nat), i = .int .i64 (j : Int) ∧ n = .int .i64 (leastN t j) ∧ o = .slice A1 (argT (t.take j)).length c1 ∧ j ≤ t.length ∧ t.length < j + gk ∧ OwnI w' w.heap.size 5 .u8 A1 c1 (argT (t.take j)) ∧ Below w.heap.size w w')
    case atStart => exact ⟨0, none, 0, rfl, rfl, rfl, by omega, by omega, own_nil _ _ _ _, b2⟩
    case round =>
      clear b2
      obtain ⟨j, A1, c1, rfl, rfl, rfl, hj, hg, ho, b2⟩ := hrel
      by_cases hlt : j < t.length
      · have j1 : (j : Int) < (t.length : Int) := by omega
        obtain ⟨al, E, d, rfl, hc, hs⟩ := (h.below b2).get j hlt
        have hr := (ckT_ok H1.out).2.2 j hlt
        have bd := leastN_bd H1.out j hj
        have bd2 := leastN_bd H1.out (j + 1) hlt
        have hS := Lib.hid (show leastN t (j + 1) = leastN t j + minN (t.getD j []) ((t.getD j []).length - 1) from rfl)
        have hT := Lib.hid (argT_take hlt)
        rw [hS.out] at bd2
        have hal : (argT (t.take j)).length ≤ 1024 := by unfold argT; simp; omega
        have ha := argN_le (t.getD j []) ((t.getD j []).length - 1)
        have CM := fun w h => Min_calls E d (t.getD j []) w h hr.1
        have CI := fun w h => Index64_calls E d (t.getD j []) w h hr.1
        have hr1 := hr.1
        have hr2 := hr.2.1
        clear hr
        generalize argN (t.getD j []) ((t.getD j []).length - 1) = a at *
        generalize minN (t.getD j []) ((t.getD j []).length - 1) = m at *
        generalize t.getD j [] = r at *
        generalize argT (t.take j) = o at *
        generalize leastN t j = s at *
        have a0 : (0 : Int) ≤ (a : Int) ∧ (a : Int) ≤ 255 := by omega
        go_wp2_with fail
        refine (CM _ hs).mono ?_
        rintro e w2 ⟨rfl, rfl⟩
        go_wp2_with fail
        refine (CI _ hs).mono ?_
        rintro e w2 ⟨rfl, rfl⟩
        go_wp2_with (at_builtin; refine app_one w.heap.size rfl _ _ 26 5 .u8 1 rfl Try.underlying26 (by kernel_rfl) (by decide) A1 c1 o (a : Int) rfl rfl ho b2.size (by omega) ?_)
        intro B1 d1 w3 o3 hg3 _
        have b3 := below_grown b2 hg3 ho (Nat.le_refl _)
        have HL2 := Lib.hid (show (argT (t.take (j + 1))).length = o.length + 1 by rw [hT.out]; simp)
        rw [← hT.out] at o3
        clear hg3 ho
        go_wp2_with fail
        go_roundg (gk - 1)
        case measure => omega
        case rel => exact ⟨j + 1, B1, d1, by simp, by rw [hS.out], by rw [HL2.out], by omega, by omega, o3, b3⟩
      · have j1 : ¬ (j : Int) < (t.length : Int) := by omega
        obtain rfl : j = t.length := by omega
        rw [List.take_length] at ho
        have H := Lib.hid (show leastT t = (leastN t t.length, argT t) by unfold leastT; rw [if_neg (by rw [H1.out]; decide)])
        rw [List.take_length]
        go_wp2_with fail
        go_ret2
        rw [H.out]; exact ⟨A1, c1, rfl, ho, b2⟩
  · have H := Lib.hid (show leastT t = (0, []) by unfold leastT; rw [if_pos h1])
    rw [ckT_two h1] at CC
    clear h1
    go_enter Try.func20, Try.ntmps20
    go_wp2_with fail
    refine (CC _ (h.below (below_alloc (Below.refl _ _) _))).mono ?_
    rintro e w1 ⟨rfl, b1⟩
    have b2 := below_trans (below_alloc (Below.refl _ _) _) b1
    clear b1
    go_wp2_with fail
    go_ret2
    rw [H.out]; exact ⟨none, 0, rfl, own_nil _ _ _ _, b2⟩
theorem Clone64_calls (A : Option Addr) (c : Nat) (xs : List Int) (w : World) (h : SlI w .i64 A c xs) (hl : xs.length * 8 ≤ 140737488355328) :
    Calls Try.prog 50 #[.slice A xs.length c] w fun e w' => ∃ A' c', e = .returned (.slice A' xs.length c') ∧ OwnI w' w.heap.size 2 .i64 A' c' xs ∧ Below w.heap.size w w' := by
  have qT := fun (w : World) (a : Option Addr) (n c : Nat) => Lib.run_eql_slice_nil (P := Try.prog) w 55 2 a n c 0 0 Try.underlying55
  cases A with
  | none =>
    have hx : xs = [] := by
      rcases h.rd with h1 | ⟨ad, h1, _⟩
      · exact List.map_eq_nil_iff.1 h1
      · cases h1
    subst hx
    go_enter Try.func50, Try.ntmps50
    go_wp2
    go_ret
    exact ⟨none, 0, rfl, own_nil _ _ _ _, Below.refl _ _⟩
  | some ad =>
    go_enter Try.func50, Try.ntmps50
    go_wp2_with (at_builtin; refine app_row w.heap.size rfl _ _ 55 2 .i64 8 rfl Try.underlying55 (by kernel_rfl) (by decide) _ _ [] xs (some ad) c rfl rfl (own_empty _ _ _ (Nat.le_refl _)) (h.below (below_alloc (Below.refl _ _) _)).rd (by simp) (by simpa using hl) ?_)
    intro B1 c1 w1 hown hg _ _
    go_wp2
    go_ret
    exact ⟨_, _, rfl, hown, below_grown (below_alloc (Below.refl _ _) _) hg (own_empty _ _ _ (Nat.le_refl _)) (Nat.le_refl _)⟩
/-- A row of a table. -/
def rowT (t : List (List Int)) (p : Int) : List Int := if p < 0 ∨ p ≥ t.length then [] else t.getD p.toNat []
theorem TRow_calls (A : Option Addr) (c : Nat) (t : List (List Int)) (p : Int) (w : World) (h : SlS w .i64 A c t) (hl : (rowT t p).length * 8 ≤ 140737488355328) :
    Calls Try.prog 25 #[.agg #[.slice A t.length c], .int .i64 p] w fun e w' => ∃ A' c', e = .returned (.slice A' (rowT t p).length c') ∧ OwnI w' w.heap.size 2 .i64 A' c' (rowT t p) ∧ Below w.heap.size w w' := by
  have hm := h.len
  by_cases h1 : p < 0
  · rw [show rowT t p = [] by unfold rowT; rw [if_pos (.inl h1)]]
    go_enter Try.func25, Try.ntmps25
    go_wp2_with fail
    go_ret
    exact ⟨none, 0, rfl, own_nil _ _ _ _, below_alloc (Below.refl _ _) _⟩
  · by_cases h2 : p ≥ t.length
    · rw [show rowT t p = [] by unfold rowT; rw [if_pos (.inr h2)]]
      go_enter Try.func25, Try.ntmps25
      go_wp2_with fail
      go_ret
      exact ⟨none, 0, rfl, own_nil _ _ _ _, below_alloc (Below.refl _ _) _⟩
    · obtain ⟨j, rfl⟩ : ∃ j : Nat, p = (j : Int) := ⟨p.toNat, by omega⟩
      have hR : rowT t (j : Int) = t.getD j [] := by unfold rowT; rw [if_neg (by omega)]; rfl
      rw [hR] at hl ⊢
      have hlt : j < t.length := by omega
      have i2 : (j : Int) < (t.length : Int) := by omega
      obtain ⟨al, E, d, rfl, hc, hs⟩ := h.get j hlt
      have hc := cell_below (below_alloc (Below.refl w.heap.size w) (.cells #[.slice (some al) t.length c] 35)) _ _ hc
      have hs := hs.below (below_alloc (Below.refl w.heap.size w) (.cells #[.slice (some al) t.length c] 35))
      have hbox := box_cell (w := w) 35 (.slice (some al) t.length c)
      generalize t.getD j [] = r at *
      clear hR
      go_enter Try.func25, Try.ntmps25
      go_wp2_with fail
      refine (Clone64_calls E d r _ hs hl).mono ?_
      rintro e w1 ⟨A', c', rfl, o1, b1⟩
      go_wp2_with fail
      go_ret
      exact ⟨A', c', rfl, own_mono o1 (by simp), below_trans (below_alloc (Below.refl _ _) _) b1⟩
/-- slices.Equal. -/
theorem Equal64_calls (A B : Option Addr) (c d : Nat) (xs ys : List Int) (w : World) (h : SlI w .i64 A c xs) (k : SlI w .i64 B d ys) :
    Calls Try.prog 54 #[.slice A xs.length c, .slice B ys.length d] w fun e w' => e = .returned (.bool (decide (xs = ys))) ∧ Below w.heap.size w w' := by
  have hm := h.len
  have km := k.len
  by_cases hl : xs.length = ys.length
  · have hb : ((xs.length : Int) != (ys.length : Int)) = false := by simp [hl]
    have HL := Lib.hid hl
    clear hl
    go_enter Try.func54, Try.ntmps54
    go_wp2_with fail
    go_loopg [5, 13] (xs.length + 1) (fun r u i w' => ∃ j : Nat, i = .int .i64 (j : Int) ∧ j ≤ xs.length ∧ xs.length < j + r ∧ Hid (∀ t, t < j → xs.getD t 0 = ys.getD t 0) ∧ ∃ n, w' = w.drewN n)
    case atStart => exact ⟨0, rfl, by omega, by omega, fun _ h => absurd h (by omega), 0, rfl⟩
    case round =>
      obtain ⟨j, rfl, hj, hr, HE, n, rfl⟩ := hrel
      by_cases hlt : j < xs.length
      · obtain ⟨ad, rfl, hx⟩ := h.get j hlt
        obtain ⟨bd, rfl, hy⟩ := k.get j (by have := HL.out; omega)
        have hlt2 : j < ys.length := by have := HL.out; omega
        have i1 : (j : Int) < (xs.length : Int) := by omega
        have i2 : (j : Int) < (ys.length : Int) := by omega
        by_cases he : xs.getD j 0 = ys.getD j 0
        · have hb2 : (xs[j] != ys[j]) = false := by simpa [List.getD_eq_getElem?_getD, hlt, hlt2] using he
          have HE2 := Lib.hid he
          clear he
          go_wp2_with fail
          go_quiet (fail)
          go_wp2_with fail
          go_roundg (gk - 1)
          case measure => omega
          case rel => exact ⟨j + 1, by simp, by omega, by omega, fun t ht => by
            rcases Nat.lt_or_ge t j with h1 | h1
            · exact HE.out t h1
            · obtain rfl : t = j := by omega
              exact HE2.out, _, rfl⟩
        · have hb2 : (xs[j] != ys[j]) = true := by simpa [List.getD_eq_getElem?_getD, hlt, hlt2] using he
          have HF := Lib.hid (show xs ≠ ys from fun hh => he (by rw [hh]))
          clear he
          go_wp2_with fail
          go_quiet (fail)
          go_wp2_with fail
          go_ret
          exact ⟨ret_bool (decide_eq_false HF.out).symm, below_drewN (below_drewN (Below.refl _ _) _) _⟩
      · have HF := Lib.hid (show xs = ys from List.ext_getElem HL.out fun t h1 h2 => by
          have := HE.out t (by omega)
          simpa [List.getD_eq_getElem?_getD, h1, h2] using this)
        go_wp2_with fail
        go_ret
        exact ⟨ret_bool (decide_eq_true HF.out).symm, below_drewN (Below.refl _ _) _⟩
  · have hb : ((xs.length : Int) != (ys.length : Int)) = true := by simp; omega
    have HF := Lib.hid (show xs ≠ ys from fun hh => hl (by rw [hh]))
    clear hl
    go_enter Try.func54, Try.ntmps54
    go_wp2_with fail
    go_ret
    exact ⟨ret_bool (decide_eq_false HF.out).symm, Below.refl _ _⟩
/-- slices.EqualFunc with slices.Equal. -/
theorem EqualFunc64_calls (A B : Option Addr) (c d : Nat) (xss yss : List (List Int)) (w : World) (h : SlS w .i64 A c xss) (k : SlS w .i64 B d yss) :
    Calls Try.prog 53 #[.slice A xss.length c, .slice B yss.length d, .func (.func 54) #[] #[]] w fun e w' => e = .returned (.bool (decide (xss = yss))) ∧ Below w.heap.size w w' := by
  have hm := h.len
  have km := k.len
  by_cases hl : xss.length = yss.length
  · have hb : ((xss.length : Int) != (yss.length : Int)) = false := by simp [hl]
    have HL := Lib.hid hl
    clear hl
    go_enter Try.func53, Try.ntmps53
    go_wp2_with fail
    go_loopg [7, 8, 9, 17] (xss.length + 1) (fun gk u1 u2 u3 i w' => ∃ j : Nat, i = .int .i64 (j : Int) ∧ j ≤ xss.length ∧ xss.length < j + gk ∧ Hid (∀ t, t < j → xss.getD t [] = yss.getD t []) ∧ Below w.heap.size w w')
    case atStart => exact ⟨0, rfl, by omega, by omega, (fun _ h => absurd h (by omega)), Below.refl _ _⟩
    case round =>
      obtain ⟨j, rfl, hj, hg, HE, bw⟩ := hrel
      by_cases hlt : j < xss.length
      · have hlt2 : j < yss.length := by have := HL.out; omega
        obtain ⟨ad, C, e, rfl, hx, hxs⟩ := (h.below bw).get j hlt
        obtain ⟨bd, D, f, rfl, hy, hys⟩ := (k.below bw).get j hlt2
        have i1 : (j : Int) < (xss.length : Int) := by omega
        have i2 : (j : Int) < (yss.length : Int) := by omega
        have SM := Equal64_calls C D e f (xss.getD j []) (yss.getD j []) wr hxs hys
        have HE2 := Lib.hid (fun (hh : xss.getD j [] = yss.getD j []) t (ht : t < j + 1) => show xss.getD t [] = yss.getD t [] by
          rcases Nat.lt_or_ge t j with h1 | h1
          · exact HE.out t h1
          · obtain rfl : t = j := by omega
            exact hh)
        have HF := Lib.hid (fun (hh : ¬ xss.getD j [] = yss.getD j []) => show xss ≠ yss from fun he => hh (by rw [he]))
        generalize xss.getD j [] = p at *
        generalize yss.getD j [] = q at *
        clear hxs hys
        by_cases he : p = q
        · rw [decide_eq_true he] at SM
          have HE3 := Lib.hid (HE2.out he)
          clear he HE2 HF
          go_wp2_with fail
          refine SM.mono ?_
          rintro e w1 ⟨rfl, b1⟩
          have b4 := below_trans bw b1
          clear b1 bw hx hy
          go_wp2_with fail
          go_roundg (gk - 1)
          case measure => omega
          case rel => exact ⟨j + 1, by simp, by omega, by omega, HE3.out, b4⟩
        · rw [decide_eq_false he] at SM
          have HF2 := Lib.hid (HF.out he)
          clear he HE2 HF
          go_wp2_with fail
          refine SM.mono ?_
          rintro e w1 ⟨rfl, b1⟩
          have b4 := below_trans bw b1
          clear b1 bw hx hy
          go_wp2_with fail
          go_ret
          exact ⟨ret_bool (decide_eq_false HF2.out).symm, b4⟩
      · have i1 : ¬ (j : Int) < (xss.length : Int) := by omega
        have HF := Lib.hid (show xss = yss from lists_ext HL.out fun t ht => HE.out t (by omega))
        go_wp2_with fail
        go_ret
        exact ⟨ret_bool (decide_eq_true HF.out).symm, bw⟩
  · have hb : ((xss.length : Int) != (yss.length : Int)) = true := by simp; omega
    have HF := Lib.hid (show xss ≠ yss from fun hh => hl (by rw [hh]))
    clear hl
    go_enter Try.func53, Try.ntmps53
    go_wp2_with fail
    go_ret
    exact ⟨ret_bool (decide_eq_false HF.out).symm, Below.refl _ _⟩
theorem TSame_calls (A B : Option Addr) (c d : Nat) (t o : List (List Int)) (w : World) (h : SlS w .i64 A c t) (k : SlS w .i64 B d o) :
    Calls Try.prog 29 #[.agg #[.slice A t.length c], .agg #[.slice B o.length d]] w fun e w' => e = .returned (.bool (decide (t = o))) ∧ Below w.heap.size w w' := by
  have b1 := below_alloc (below_alloc (Below.refl w.heap.size w) (.cells #[.slice A t.length c] 35)) (.cells #[.slice B o.length d] 35)
  go_enter Try.func29, Try.ntmps29
  go_wp2_with fail
  refine (EqualFunc64_calls A B c d t o _ (h.below b1) (k.below b1)).mono ?_
  rintro e w1 ⟨rfl, b2⟩
  go_wp2_with fail
  go_ret
  exact ⟨rfl, below_trans b1 b2⟩
end Go.Proofs.Ythpgaggceefamaa
