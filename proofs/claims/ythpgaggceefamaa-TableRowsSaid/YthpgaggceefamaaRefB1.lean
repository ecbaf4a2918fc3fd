/- The reference's Check of books. -/
import Derived.Test.YthpgaggceefamaaBk2
import Derived.Test.YthpgaggceefamaaVecRefB
namespace Go.Proofs.Ythpgaggceefamaa
set_option linter.unusedVariables false
set_option linter.unusedSimpArgs false
open Go.RowKit
/-- Of each word, that it is short: so that no product overflows. -/
def shortB (b : List (List (List Int))) : Prop := ∀ j, j < b.length → ∀ i, i < (b.getD j []).length → ((b.getD j []).getD i []).length ≤ 1000
theorem shB_bad {b : List (List (List Int))} {j : Nat} (h : j < b.length) (hb : badL (n0B b) (wdB b) (b.getD j []) = true) : shB b = false := by
  unfold shB
  rw [any_of (badL (n0B b) (wdB b)) [] h hb]
  simp
theorem shB_yes {b : List (List (List Int))} (h1 : ¬ b.length < 1) (h2 : ¬ b.length > 1024) (h3 : ¬ n0B b < 1) (h4 : ¬ n0B b > 256) (h5 : ¬ wdB b < 1) (h7 : ¬ b.length * wdB b > 1024) (h : ∀ j, j < b.length → badL (n0B b) (wdB b) (b.getD j []) = false) : shB b = true := by
  have e : b.any (badL (n0B b) (wdB b)) = false := by
    rw [List.any_eq_false]
    intro l hl
    obtain ⟨j, hj, rfl⟩ := List.mem_iff_getElem.1 hl
    have := h j hj
    rw [List.getD_eq_getElem?_getD, List.getElem?_eq_getElem hj] at this
    simpa using this
  unfold shB
  rw [e]
  have hc : wdB b * b.length = b.length * wdB b := Nat.mul_comm _ _
  have h6 : ¬ wdB b > 1024 := fun hh => h7 (by have := Nat.mul_le_mul_right (wdB b) (show 1 ≤ b.length by omega); omega)
  rw [decide_eq_false (by rintro (x | x | x | x | x | x | x); exact h1 x; exact h2 x; exact h3 x; exact h4 x; exact h5 x; exact h6 x; omega)]
  rfl
theorem shB_no' {b : List (List (List Int))} (h : b.length * wdB b > 1024) : shB b = false := by
  have hc : wdB b * b.length = b.length * wdB b := Nat.mul_comm _ _
  exact shB_no (.inr (.inr (.inr (.inr (.inr (.inr (by omega)))))))
theorem ckB_two {b : List (List (List Int))} (h : shB b = false) : ckB b = 2 := by unfold ckB; rw [if_pos h]
theorem ckB_far {b : List (List (List Int))} (h : shB b = true) {j i : Nat} (hj : j < b.length) (hi : i < (b.getD j []).length) (hf : ckW ((b.getD j []).getD i []) ≠ 0) : ckB b = 11 := by
  unfold ckB
  rw [if_neg (by rw [h]; decide), if_pos]
  exact any_of (fun l : List (List Int) => l.any far) [] hj (any_of far [] hi (by unfold far; exact decide_eq_true hf))
theorem ckB_zero {b : List (List (List Int))} (h : shB b = true) (hn : ∀ j, j < b.length → ∀ i, i < (b.getD j []).length → ckW ((b.getD j []).getD i []) = 0) : ckB b = 0 := by
  unfold ckB
  rw [if_neg (by rw [h]; decide), if_neg]
  simp only [Bool.not_eq_true, List.any_eq_false]
  intro l hl v hv
  obtain ⟨j, hj, rfl⟩ := List.mem_iff_getElem.1 hl
  obtain ⟨i, hi, rfl⟩ := List.mem_iff_getElem.1 hv
  have := hn j hj
  rw [List.getD_eq_getElem?_getD, List.getElem?_eq_getElem hj] at this
  have := this i hi
  rw [Option.getD_some, List.getD_eq_getElem?_getD, List.getElem?_eq_getElem hi] at this
  simpa [far] using this
set_option maxHeartbeats 1000000 in
theorem RBCheck_calls (A : Option Addr) (c : Nat) (b : List (List (List Int))) (w : World) (h : SlB w .i32 A c b) (hS : shortB b) :
    Calls Try.prog 10 #[.agg #[.slice A b.length c]] w fun e w' => e = .returned (.int .i64 (ckB b)) ∧ Below w.heap.size w w' := by
  have hm := h.len
  have b1 := below_alloc (Below.refl w.heap.size w) (.cells #[.slice A b.length c] 24)
  have hbox := box_cell (w := w) 24 (.slice A b.length c)
  by_cases h1 : b.length < 1
  · have H := Lib.hid (ckB_two (shB_no (b := b) (.inl h1)))
    have i1 : (b.length : Int) < 1 := by omega
    go_enter Try.func10, Try.ntmps10
    go_wp2_with fail
    go_ret
    rw [H.out]; exact ⟨rfl, b1⟩
  have i1 : ¬ (b.length : Int) < 1 := by omega
  by_cases h2 : b.length > 1024
  · have H := Lib.hid (ckB_two (shB_no (b := b) (.inr (.inl h2))))
    have i2 : (b.length : Int) > 1024 := by omega
    go_enter Try.func10, Try.ntmps10
    go_wp2_with fail
    go_ret
    rw [H.out]; exact ⟨rfl, b1⟩
  have i2 : ¬ (b.length : Int) > 1024 := by omega
  have j0 : (0 : Int) < (b.length : Int) := by omega
  obtain ⟨a0, E, k, rfl, hx0, hs0⟩ := h.get 0 (by omega)
  rw [show a0.add 0 = a0 from rfl, show (b.getD 0 []).length = n0B b from rfl] at hx0
  have hx := cell_below b1 _ _ hx0
  have hsl := hs0.len
  by_cases h3 : n0B b < 1
  · have H := Lib.hid (ckB_two (shB_no (b := b) (.inr (.inr (.inl h3)))))
    generalize n0B b = n at *
    have i3 : (n : Int) < 1 := by omega
    go_enter Try.func10, Try.ntmps10
    go_wp2_with fail
    go_ret
    rw [H.out]; exact ⟨rfl, b1⟩
  by_cases h4 : n0B b > 256
  · have H := Lib.hid (ckB_two (shB_no (b := b) (.inr (.inr (.inr (.inl h4))))))
    generalize n0B b = n at *
    have i3 : ¬ (n : Int) < 1 := by omega
    have i4 : (n : Int) > 256 := by omega
    go_enter Try.func10, Try.ntmps10
    go_wp2_with fail
    go_ret
    rw [H.out]; exact ⟨rfl, b1⟩
  obtain ⟨e0, G, q, rfl, hy0, hv0⟩ := hs0.get 0 (show 0 < n0B b by omega)
  rw [show e0.add 0 = e0 from rfl, show ((b.getD 0 []).getD 0 []).length = wdB b from rfl] at hy0
  have hy := cell_below b1 _ _ hy0
  have hw1000 : wdB b ≤ 1000 := hS 0 (by omega) 0 (show 0 < n0B b by omega)
  have i3 : ¬ (n0B b : Int) < 1 := by omega
  have i4 : ¬ (n0B b : Int) > 256 := by omega
  have j1 : (0 : Int) < (n0B b : Int) := by omega
  have bd := below_drewN b1 1
  by_cases h5 : wdB b < 1
  · have H := Lib.hid (ckB_two (shB_no (b := b) (.inr (.inr (.inr (.inr (.inl h5)))))))
    generalize wdB b = m at *
    generalize n0B b = n at *
    have i5 : (m : Int) < 1 := by omega
    go_enter Try.func10, Try.ntmps10
    go_wp2_with fail
    go_quiet (fail)
    go_wp2_with fail
    go_ret
    rw [H.out]; exact ⟨rfl, below_drewN b1 _⟩
  have hpos : (0 : Int) ≤ (b.length : Int) * (wdB b : Int) := Int.mul_nonneg (by omega) (by omega)
  have htop : (b.length : Int) * (wdB b : Int) ≤ 1024 * 1024 := Int.mul_le_mul (by omega) (by omega) (by omega) (by omega)
  have hcast : ((b.length * wdB b : Nat) : Int) = (b.length : Int) * (wdB b : Int) := Int.natCast_mul _ _
  by_cases h7 : b.length * wdB b > 1024
  · have H := Lib.hid (ckB_two (shB_no' h7))
    have i7 : (b.length : Int) * (wdB b : Int) > 1024 := by omega
    generalize wdB b = m at *
    generalize n0B b = n at *
    have i5 : ¬ (m : Int) < 1 := by omega
    clear hcast h7
    go_enter Try.func10, Try.ntmps10
    go_wp2_with fail
    go_quiet (fail)
    go_wp2_with fail
    go_ret
    rw [H.out]; exact ⟨rfl, below_drewN b1 _⟩
  have i7 : ¬ (b.length : Int) * (wdB b : Int) > 1024 := by omega
  have i5 : ¬ (wdB b : Int) < 1 := by omega
  have HY := Lib.hid (shB_yes h1 h2 h3 h4 h5 h7)
  clear hcast h7 h5 h3 h4 hsl
  have HBAD := Lib.hid (fun j (hj : j < b.length) hb => ckB_two (shB_bad hj hb))
  generalize hmm : wdB b = m at *
  generalize hnn : n0B b = n at *
  go_enter Try.func10, Try.ntmps10
  go_wp2_with fail
  go_quiet (fail)
  go_wp2_with fail
  go_loopg [6, 7] (b.length + 1) (fun gk i u7 w' => ∃ j : Nat, i = .int .i64 (j : Int) ∧ j ≤ b.length ∧ b.length < j + gk ∧ Hid (∀ t, t < j → badL n m (b.getD t []) = false) ∧ Below w.heap.size w w' ∧ w'.cell? ⟨w.heap.size, 0, none⟩ = some (.slice (some a0) b.length c))
  case atStart => exact ⟨0, rfl, by omega, by omega, (fun _ hh => absurd hh (by omega)), below_drewN b1 _, cell_below (below_drewN (Below.refl _ _) _) _ _ hbox⟩
  case round =>
    obtain ⟨G, hG⟩ : ∃ G, Hid (G = gk) := ⟨_, Lib.hid rfl⟩
    obtain ⟨j, rfl, hj, hg, HA, bw, hbx⟩ := hrel
    by_cases hlt : j < b.length
    · have k1 : (j : Int) < (b.length : Int) := by omega
      obtain ⟨a0', B, d, ha0, hc, hs⟩ := (h.below bw).get j hlt
      obtain rfl : a0 = a0' := Option.some.inj ha0
      have hl := hs.len
      by_cases h8 : (b.getD j []).length = n
      · have i8 : (((b.getD j []).length : Int) != (n : Int)) = false := by rw [neq_len]; exact decide_eq_false (by simpa using h8)
        have HN := Lib.hid (show badL n m (b.getD j []) = (b.getD j []).any (badV m) by unfold badL; rw [decide_eq_false (by simpa using h8)]; rfl)
        have HNX := Lib.hid (fun hh : badL n m (b.getD j []) = false => show ∀ t, t < j + 1 → badL n m (b.getD t []) = false from fun t ht => by
          rcases Nat.lt_or_ge t j with h9 | h9
          · exact HA.out t h9
          · obtain rfl : t = j := by omega
            exact hh)
        have HX := Lib.hid (fun hh : badL n m (b.getD j []) = true => HBAD.out j hlt hh)
        rw [h8] at hc i8
        have H8 := Lib.hid h8
        clear h8
        generalize b.getD j [] = l at *
        go_wp2_with fail
        go_loopg [7] (n + 1) (fun gk i w' => ∃ s : Nat, i = .int .i64 (s : Int) ∧ s ≤ n ∧ n < s + gk ∧ Hid (∀ t, t < s → badV m (l.getD t []) = false) ∧ wr = w')
        case atStart => exact ⟨0, rfl, by omega, by omega, (fun _ hh => absurd hh (by omega)), rfl⟩
        case round =>
          obtain ⟨s, rfl, hs2, hg2, HA2, rfl⟩ := hrel
          by_cases hlt2 : s < n
          · have k2 : (s : Int) < (n : Int) := by omega
            obtain ⟨ad, F, f, rfl, hcv, hv⟩ := hs.get s (by rw [H8.out]; exact hlt2)
            by_cases h9 : (l.getD s []).length = m
            · have i9 : (((l.getD s []).length : Int) != (m : Int)) = false := by rw [neq_len]; exact decide_eq_false (by simpa using h9)
              have HB2 := Lib.hid (show ∀ t, t < s + 1 → badV m (l.getD t []) = false from fun t ht => by
                rcases Nat.lt_or_ge t s with h10 | h10
                · exact HA2.out t h10
                · obtain rfl : t = s := by omega
                  unfold badV; exact decide_eq_false (by simpa using h9))
              rw [h9] at hcv i9
              clear h9
              go_wp2_with fail
              go_roundg (gk - 1)
              case measure => omega
              case rel => exact ⟨s + 1, by simp, by omega, by omega, HB2.out, rfl⟩
            · have i9 : (((l.getD s []).length : Int) != (m : Int)) = true := by rw [neq_len]; exact decide_eq_true h9
              have H := Lib.hid (HX.out (by rw [HN.out]; exact any_of (badV m) [] (show s < l.length by rw [H8.out]; exact hlt2) (by unfold badV; exact decide_eq_true h9)))
              clear h9
              generalize (l.getD s []).length = z at *
              go_wp2_with fail
              go_ret
              rw [H.out]; exact ⟨rfl, bw⟩
          · obtain rfl : s = n := by omega
            have k2 : ¬ (s : Int) < (s : Int) := by omega
            have HF := Lib.hid (HNX.out (by rw [HN.out, List.any_eq_false]; intro v hv; obtain ⟨t, ht, rfl⟩ := List.mem_iff_getElem.1 hv; have := HA2.out t (by have := H8.out; omega); rw [List.getD_eq_getElem?_getD, List.getElem?_eq_getElem ht] at this; simpa using this))
            go_wp2_with fail
            go_roundg (G - 1)
            case measure => have := hG.out; omega
            case rel => exact ⟨j + 1, by simp, by omega, by have := hG.out; omega, HF.out, bw, hbx⟩
      · have i8 : (((b.getD j []).length : Int) != (n : Int)) = true := by rw [neq_len]; exact decide_eq_true h8
        have H := Lib.hid (HBAD.out j hlt (by unfold badL; rw [decide_eq_true h8]; rfl))
        clear h8
        generalize (b.getD j []).length = z at *
        go_wp2_with fail
        go_ret
        rw [H.out]; exact ⟨rfl, bw⟩
    · obtain rfl : j = b.length := by omega
      have k1 : ¬ (b.length : Int) < (b.length : Int) := by omega
      have HSH := Lib.hid (HY.out (fun t ht => HA.out t ht))
      have HLEN := Lib.hid (fun t (ht : t < b.length) => show (b.getD t []).length = n from by
        have := HA.out t ht
        unfold badL at this
        simp only [Bool.or_eq_false_iff, decide_eq_false_iff_not, Decidable.not_not] at this
        exact this.1)
      clear HA HY HBAD
      go_wp2_with fail
      go_loopg [8, 9] (b.length + 1) (fun gk i u9 w' => ∃ j : Nat, i = .int .i64 (j : Int) ∧ j ≤ b.length ∧ b.length < j + gk ∧ Hid (∀ t, t < j → ∀ s, s < (b.getD t []).length → ckW ((b.getD t []).getD s []) = 0) ∧ Below w.heap.size w w' ∧ w'.cell? ⟨w.heap.size, 0, none⟩ = some (.slice (some a0) b.length c))
      case atStart => exact ⟨0, rfl, by omega, by omega, (fun _ hh => absurd hh (by omega)), bw, hbx⟩
      case round =>
        clear hG hg
        obtain ⟨G, hG⟩ : ∃ G, Hid (G = gk) := ⟨_, Lib.hid rfl⟩
        clear bw hbx
        obtain ⟨j, rfl, hj, hg, HA, bw, hbx⟩ := hrel
        by_cases hlt : j < b.length
        · have k1 : (j : Int) < (b.length : Int) := by omega
          have hln := HLEN.out j hlt
          have SB := Lib.hid (fun W (hW : Below w.heap.size w W) => (h.below hW).get j hlt)
          have HX := Lib.hid (fun s hs hf => ckB_far HSH.out hlt (i := s) hs hf)
          have HNX := Lib.hid (fun hh : ∀ s, s < (b.getD j []).length → ckW ((b.getD j []).getD s []) = 0 => show ∀ t, t < j + 1 → ∀ s, s < (b.getD t []).length → ckW ((b.getD t []).getD s []) = 0 from fun t ht => by
            rcases Nat.lt_or_ge t j with h9 | h9
            · exact HA.out t h9
            · obtain rfl : t = j := by omega
              exact hh)
          have H8 := Lib.hid hln
          rw [hln] at SB
          clear hln
          generalize b.getD j [] = l at *
          go_wp2_with fail
          go_loopg [9] (n + 1) (fun gk i w' => ∃ s : Nat, i = .int .i64 (s : Int) ∧ s ≤ n ∧ n < s + gk ∧ Hid (∀ t, t < s → ckW (l.getD t []) = 0) ∧ Below w.heap.size w w' ∧ w'.cell? ⟨w.heap.size, 0, none⟩ = some (.slice (some a0) b.length c))
          case atStart => exact ⟨0, rfl, by omega, by omega, (fun _ hh => absurd hh (by omega)), bw, hbx⟩
          case round =>
            clear bw hbx
            obtain ⟨s, rfl, hs2, hg2, HA2, bw, hbx⟩ := hrel
            by_cases hlt2 : s < n
            · have k2 : (s : Int) < (n : Int) := by omega
              obtain ⟨a0', B, d, ha0, hc, hs⟩ := SB.out _ bw
              obtain rfl : a0 = a0' := Option.some.inj ha0
              obtain ⟨ad, F, f, rfl, hcv, hv⟩ := hs.get s (by rw [H8.out]; exact hlt2)
              have CW := RCheckWide_calls F f _ _ hv
              by_cases h9 : ckW (l.getD s []) = 0
              · rw [h9] at CW
                have HB2 := Lib.hid (show ∀ t, t < s + 1 → ckW (l.getD t []) = 0 from fun t ht => by
                  rcases Nat.lt_or_ge t s with h10 | h10
                  · exact HA2.out t h10
                  · obtain rfl : t = s := by omega
                    exact h9)
                clear h9 hv
                generalize l.getD s [] = v at *
                go_wp2_with fail
                refine CW.mono ?_
                rintro e w1 ⟨rfl, b2⟩
                have bw2 := below_trans bw b2
                have hbx2 := cell_below b2 _ _ hbx
                clear b2 bw hbx hc hcv hs CW
                go_wp2_with fail
                go_roundg (gk - 1)
                case measure => omega
                case rel => exact ⟨s + 1, by simp, by omega, by omega, HB2.out, bw2, hbx2⟩
              · have H := Lib.hid (HX.out s (by rw [H8.out]; exact hlt2) h9)
                generalize hxx : ckW (l.getD s []) = x at *
                have i9 : (x != 0) = true := by simpa using h9
                clear h9 hv hxx
                generalize l.getD s [] = v at *
                go_wp2_with fail
                refine CW.mono ?_
                rintro e w1 ⟨rfl, b2⟩
                go_wp2_with fail
                go_ret
                rw [H.out]; exact ⟨rfl, below_trans bw b2⟩
            · obtain rfl : s = n := by omega
              have k2 : ¬ (s : Int) < (s : Int) := by omega
              have HF := Lib.hid (HNX.out (fun t ht => HA2.out t (by have := H8.out; omega)))
              go_wp2_with fail
              go_roundg (G - 1)
              case measure => have := hG.out; omega
              case rel => exact ⟨j + 1, by simp, by omega, by have := hG.out; omega, HF.out, bw, hbx⟩
        · obtain rfl : j = b.length := by omega
          have k1 : ¬ (b.length : Int) < (b.length : Int) := by omega
          have H := Lib.hid (ckB_zero HSH.out HA.out)
          go_wp2_with fail
          go_ret
          rw [H.out]; exact ⟨rfl, bw⟩
end Go.Proofs.Ythpgaggceefamaa
