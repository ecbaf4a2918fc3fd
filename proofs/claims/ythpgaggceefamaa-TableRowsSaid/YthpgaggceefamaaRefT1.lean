/- The reference's Check, Row, Sum, Least of tables. -/
import Derived.Test.YthpgaggceefamaaTab2
import Derived.Deep.QuietTactic
import Derived.BigQuiet
namespace Go.Proofs.Ythpgaggceefamaa
set_option linter.unusedVariables false
set_option linter.unusedSimpArgs false
open Go.RowKit
theorem ckT_bad {t : List (List Int)} {j : Nat} (h : j < t.length) (hb : badR (t.getD j []) = true) : ckT t = 2 := by
  unfold ckT; rw [if_pos (.inr (.inr (any_of badR [] h hb)))]
theorem ckT_good {t : List (List Int)} (h1 : ¬ t.length < 1) (h2 : ¬ t.length > 1024) (h : ∀ j, j < t.length → badR (t.getD j []) = false) : ckT t = 0 := by
  unfold ckT
  rw [if_neg]
  rintro (x | x | x)
  · exact h1 x
  · exact h2 x
  · obtain ⟨r, hr, hb⟩ := List.any_eq_true.1 x
    obtain ⟨j, hj, rfl⟩ := List.mem_iff_getElem.1 hr
    have := h j hj
    rw [List.getD_eq_getElem?_getD, List.getElem?_eq_getElem hj, Option.getD_some, hb] at this
    cases this
theorem badR_len {r : List Int} (h : r.length < 1 ∨ r.length > 256) : badR r = true := by
  unfold badR
  rcases h with h | h
  · rw [decide_eq_true h]; rfl
  · rw [decide_eq_true h]; simp
theorem badR_el {r : List Int} {i : Nat} (hi : i < r.length) (h : r.getD i 0 < 0 ∨ r.getD i 0 > 70368744177664) : badR r = true := by
  unfold badR
  rw [any_of badE 0 hi (by unfold badE; rcases h with h | h <;> simp only [Bool.or_eq_true, decide_eq_true_eq] <;> omega)]
  simp
theorem badR_no {r : List Int} (h1 : ¬ r.length < 1) (h2 : ¬ r.length > 256) (h : ∀ i, i < r.length → ¬ r.getD i 0 < 0 ∧ ¬ r.getD i 0 > 70368744177664) : badR r = false := by
  unfold badR
  rw [decide_eq_false h1, decide_eq_false h2, Bool.false_or, Bool.false_or, List.any_eq_false]
  intro x hx
  obtain ⟨i, hi, rfl⟩ := List.mem_iff_getElem.1 hx
  have := h i hi
  rw [List.getD_eq_getElem?_getD, List.getElem?_eq_getElem hi, Option.getD_some] at this
  unfold badE
  simp only [Bool.or_eq_true, decide_eq_true_eq]
  omega
theorem RTCheck_calls (A : Option Addr) (c : Nat) (t : List (List Int)) (w : World) (h : SlS w .i64 A c t) :
    Calls Try.prog 36 #[.agg #[.slice A t.length c]] w fun e w' => e = .returned (.int .i64 (ckT t)) ∧ Below w.heap.size w w' := by
  have hm := h.len
  have b1 := below_alloc (Below.refl w.heap.size w) (.cells #[.slice A t.length c] 35)
  have hbox := box_cell (w := w) 35 (.slice A t.length c)
  by_cases h1 : t.length < 1
  · have H := Lib.hid (show ckT t = 2 by unfold ckT; rw [if_pos (.inl h1)])
    have i1 : (t.length : Int) < 1 := by omega
    go_enter Try.func36, Try.ntmps36
    go_wp2_with fail
    go_ret
    rw [H.out]; exact ⟨rfl, b1⟩
  have i1 : ¬ (t.length : Int) < 1 := by omega
  by_cases h2 : t.length > 1024
  · have H := Lib.hid (show ckT t = 2 by unfold ckT; rw [if_pos (.inr (.inl h2))])
    have i2 : (t.length : Int) > 1024 := by omega
    go_enter Try.func36, Try.ntmps36
    go_wp2_with fail
    go_ret
    rw [H.out]; exact ⟨rfl, b1⟩
  have i2 : ¬ (t.length : Int) > 1024 := by omega
  have HBAD := Lib.hid (fun j (hj : j < t.length) hb => ckT_bad hj hb)
  have HG := Lib.hid (ckT_good h1 h2)
  clear h1 h2
  go_enter Try.func36, Try.ntmps36
  go_wp2_with fail
  go_loopg [3, 4] (t.length + 1) (fun gk i u w' => ∃ j : Nat, i = .int .i64 (j : Int) ∧ j ≤ t.length ∧ t.length < j + gk ∧ Hid (∀ s, s < j → badR (t.getD s []) = false) ∧ Below w.heap.size w w' ∧ w'.cell? ⟨w.heap.size, 0, none⟩ = some (.slice A t.length c))
  case atStart => exact ⟨0, rfl, by omega, by omega, (fun _ hh => absurd hh (by omega)), b1, hbox⟩
  case round =>
    clear b1 hbox
    obtain ⟨G, hG⟩ : ∃ G, Hid (G = gk) := ⟨_, Lib.hid rfl⟩
    obtain ⟨j, rfl, hj, hg, HA, bw, hbx⟩ := hrel
    by_cases hlt : j < t.length
    · have k1 : (j : Int) < (t.length : Int) := by omega
      obtain ⟨a0, B, d, rfl, hc, hs⟩ := (h.below bw).get j hlt
      have hl := hs.len
      have HX := Lib.hid (fun hh : badR (t.getD j []) = true => HBAD.out j hlt hh)
      have HN := Lib.hid (fun hh : badR (t.getD j []) = false => show ∀ s, s < j + 1 → badR (t.getD s []) = false from fun s hs' => by
        rcases Nat.lt_or_ge s j with h9 | h9
        · exact HA.out s h9
        · obtain rfl : s = j := by omega
          exact hh)
      generalize t.getD j [] = r at *
      by_cases h3 : r.length < 1
      · have H := Lib.hid (HX.out (badR_len (.inl h3)))
        have i3 : (r.length : Int) < 1 := by omega
        go_wp2_with fail
        go_ret
        rw [H.out]; exact ⟨rfl, bw⟩
      · have i3 : ¬ (r.length : Int) < 1 := by omega
        by_cases h4 : r.length > 256
        · have H := Lib.hid (HX.out (badR_len (.inr h4)))
          have i4 : (r.length : Int) > 256 := by omega
          go_wp2_with fail
          go_ret
          rw [H.out]; exact ⟨rfl, bw⟩
        · have i4 : ¬ (r.length : Int) > 256 := by omega
          have HE := Lib.hid (fun i (hi : i < r.length) hh => HX.out (badR_el hi hh))
          have HF := Lib.hid (fun hh => HN.out (badR_no h3 h4 hh))
          clear h3 h4
          go_wp2_with fail
          go_loopg [4] (r.length + 1) (fun gk i w' => ∃ s : Nat, i = .int .i64 (s : Int) ∧ s ≤ r.length ∧ r.length < s + gk ∧ Hid (∀ i, i < s → ¬ r.getD i 0 < 0 ∧ ¬ r.getD i 0 > 70368744177664) ∧ wr = w')
          case atStart => exact ⟨0, rfl, by omega, by omega, (fun _ hh => absurd hh (by omega)), rfl⟩
          case round =>
            obtain ⟨s, rfl, hs2, hg2, HA2, rfl⟩ := hrel
            by_cases hlt2 : s < r.length
            · have k2 : (s : Int) < (r.length : Int) := by omega
              obtain ⟨ad, rfl, hcv⟩ := hs.get s hlt2
              have HX2 := Lib.hid (fun hh => HE.out s hlt2 hh)
              have HN2 := Lib.hid (fun hh : ¬ r.getD s 0 < 0 ∧ ¬ r.getD s 0 > 70368744177664 => show ∀ i, i < s + 1 → ¬ r.getD i 0 < 0 ∧ ¬ r.getD i 0 > 70368744177664 from fun i hi => by
                rcases Nat.lt_or_ge i s with h9 | h9
                · exact HA2.out i h9
                · obtain rfl : i = s := by omega
                  exact hh)
              generalize r.getD s 0 = v at *
              by_cases h5 : v < 0
              · have H := Lib.hid (HX2.out (.inl h5))
                go_wp2_with fail
                go_ret
                rw [H.out]; exact ⟨rfl, bw⟩
              · by_cases h6 : v > 70368744177664
                · have H := Lib.hid (HX2.out (.inr h6))
                  go_wp2_with fail
                  go_ret
                  rw [H.out]; exact ⟨rfl, bw⟩
                · have HB2 := Lib.hid (HN2.out ⟨h5, h6⟩)
                  go_wp2_with fail
                  go_roundg (gk - 1)
                  case measure => omega
                  case rel => exact ⟨s + 1, by simp, by omega, by omega, HB2.out, rfl⟩
            · obtain rfl : s = r.length := by omega
              have k2 : ¬ (r.length : Int) < (r.length : Int) := by omega
              have HB := Lib.hid (HF.out (fun i hi => by have := HA2.out i hi; omega))
              go_wp2_with fail
              go_roundg (G - 1)
              case measure => have := hG.out; omega
              case rel => exact ⟨j + 1, by simp, by omega, by have := hG.out; omega, HB.out, bw, hbx⟩
    · obtain rfl : j = t.length := by omega
      have k1 : ¬ (t.length : Int) < (t.length : Int) := by omega
      have H := Lib.hid (HG.out HA.out)
      go_wp2_with fail
      go_ret
      rw [H.out]; exact ⟨rfl, bw⟩
theorem RTRow_calls (A : Option Addr) (c : Nat) (t : List (List Int)) (p : Int) (w : World) (h : SlS w .i64 A c t) (hl : (rowT t p).length * 8 ≤ 140737488355328) :
    Calls Try.prog 37 #[.agg #[.slice A t.length c], .int .i64 p] w fun e w' => ∃ A' c', e = .returned (.slice A' (rowT t p).length c') ∧ OwnI w' w.heap.size 2 .i64 A' c' (rowT t p) ∧ Below w.heap.size w w' := by
  have hm := h.len
  by_cases h1 : p < 0
  · rw [show rowT t p = [] by unfold rowT; rw [if_pos (.inl h1)]]
    go_enter Try.func37, Try.ntmps37
    go_wp2_with fail
    go_ret
    exact ⟨none, 0, rfl, own_nil _ _ _ _, below_alloc (Below.refl _ _) _⟩
  · by_cases h2 : p ≥ t.length
    · rw [show rowT t p = [] by unfold rowT; rw [if_pos (.inr h2)]]
      go_enter Try.func37, Try.ntmps37
      go_wp2_with fail
      go_ret
      exact ⟨none, 0, rfl, own_nil _ _ _ _, below_alloc (Below.refl _ _) _⟩
    · obtain ⟨j, rfl⟩ : ∃ j : Nat, p = (j : Int) := ⟨p.toNat, by omega⟩
      have hR : rowT t (j : Int) = t.getD j [] := by unfold rowT; rw [if_neg (by omega)]; rfl
      rw [hR] at hl ⊢
      have hlt : j < t.length := by omega
      have i2 : (j : Int) < (t.length : Int) := by omega
      obtain ⟨al, E, d, rfl, hc, hs⟩ := h.get j hlt
      have bb := below_alloc (below_alloc (Below.refl w.heap.size w) (.cells #[.slice (some al) t.length c] 35)) (.cells #[] 2)
      have hc := cell_below bb _ _ hc
      have hs := hs.below bb
      have hbox := cell_below (below_alloc (Below.refl (w.alloc (.cells #[.slice (some al) t.length c] 35)).heap.size _) (.cells #[] 2)) _ _ (box_cell (w := w) 35 (.slice (some al) t.length c))
      have b1 := below_alloc (Below.refl w.heap.size w) (.cells #[.slice (some al) t.length c] 35)
      have ow := own_empty (w.alloc (.cells #[.slice (some al) t.length c] 35)) w.heap.size 2 (by simp)
      rw [World.size_alloc] at ow
      have bsz := bb.size
      generalize t.getD j [] = r at *
      clear hR
      go_enter Try.func37, Try.ntmps37
      go_wp2_with (at_builtin; refine app_row w.heap.size rfl _ _ 55 2 .i64 8 rfl Try.underlying55 (by kernel_rfl) (by decide) _ _ [] r E d rfl rfl ow hs.rd bsz (by simpa using hl) ?_)
      intro B1 c1 w1 hown hg _ _
      go_wp2
      go_ret
      exact ⟨_, _, rfl, hown, below_grown bb hg ow (Nat.le_refl _)⟩
end Go.Proofs.Ythpgaggceefamaa
