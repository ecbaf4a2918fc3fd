import Derived.Test.YthpgaggceefamaaVecM
namespace Go.Proofs.Ythpgaggceefamaa
set_option linter.unusedVariables false
set_option linter.unusedSimpArgs false
open Go.RowKit
theorem RCheckWide_calls (A : Option Addr) (c : Nat) (l : List Int) (w : World) (h : SlI w .i32 A c l) :
    Calls Try.prog 12 #[.slice A l.length c] w fun e w' => e = .returned (.int .i64 (ckW l)) ∧ Below w.heap.size w w' := by
  have hm := h.len
  by_cases h1 : l.length < 1
  · have H := Lib.hid (show ckW l = 2 by unfold ckW; rw [if_pos (.inl h1)])
    have i1 : (l.length : Int) < 1 := by omega
    go_enter Try.func12, Try.ntmps12
    go_wp2_with fail
    go_ret
    rw [H.out]; exact ⟨rfl, Below.refl _ _⟩
  · by_cases h2 : l.length > 1024
    · have H := Lib.hid (show ckW l = 2 by unfold ckW; rw [if_pos (.inr h2)])
      have i1 : ¬ (l.length : Int) < 1 := by omega
      have i2 : (l.length : Int) > 1024 := by omega
      go_enter Try.func12, Try.ntmps12
      go_wp2_with fail
      go_ret
      rw [H.out]; exact ⟨rfl, Below.refl _ _⟩
    · have i1 : ¬ (l.length : Int) < 1 := by omega
      have i2 : ¬ (l.length : Int) > 1024 := by omega
      have HC := Lib.hid (show ckW l = if anyB l then 11 else 0 by unfold ckW; rw [if_neg (by omega)])
      go_enter Try.func12, Try.ntmps12
      go_wp2_with fail
      go_loopg [3] (l.length + 1) (fun gk i w' => ∃ j : Nat, i = .int .i64 (j : Int) ∧ j ≤ l.length ∧ l.length < j + gk ∧ Hid (anyB (l.take j) = false) ∧ Below w.heap.size w w')
      case atStart => exact ⟨0, rfl, by omega, by omega, rfl, Below.refl _ _⟩
      case round =>
        obtain ⟨j, rfl, hj, hg, ha, hb⟩ := hrel
        by_cases hlt : j < l.length
        · have j1 : (j : Int) < (l.length : Int) := by omega
          obtain ⟨al, rfl, hc⟩ := (h.below hb).get j hlt
          have ht := anyB_take hlt
          rw [ha.out, Bool.false_or] at ht
          have hT := Lib.hid ht
          have hy := fun hv => anyB_of hlt hv
          have HY := Lib.hid hy
          have cs : l.getD j 0 < -131072 ∨ (¬ l.getD j 0 < -131072 ∧ l.getD j 0 > 131072) ∨ (¬ l.getD j 0 < -131072 ∧ ¬ l.getD j 0 > 131072) := by omega
          clear ht hy
          generalize l.getD j 0 = v at *
          rcases cs with c1 | ⟨c1, c2⟩ | ⟨c1, c2⟩
          · have hany := Lib.hid (HY.out (by unfold bey; simp; omega))
            go_wp2_with fail
            go_ret
            rw [HC.out, hany.out]; exact ⟨rfl, hb⟩
          · have hany := Lib.hid (HY.out (by unfold bey; simp; omega))
            go_wp2_with fail
            go_ret
            rw [HC.out, hany.out]; exact ⟨rfl, hb⟩
          · have hno := Lib.hid (hT.out.trans (show bey v = false by unfold bey; simp; omega))
            go_wp2_with fail
            go_roundg (gk - 1)
            case measure => omega
            case rel => exact ⟨j + 1, by simp, by omega, by omega, hno.out, hb⟩
        · have j1 : ¬ (j : Int) < (l.length : Int) := by omega
          have htk : l.take j = l := List.take_of_length_le (by omega)
          have hany := Lib.hid (show anyB l = false by have := ha.out; rwa [htk] at this)
          clear htk
          go_wp2_with fail
          go_ret
          rw [HC.out, hany.out]; exact ⟨rfl, hb⟩
theorem RBoth_calls (A B : Option Addr) (ca cb : Nat) (a b : List Int) (w : World) (ha : SlI w .i32 A ca a) (hb : SlI w .i32 B cb b) :
    Calls Try.prog 47 #[.slice A a.length ca, .slice B b.length cb] w fun e w' => e = .returned (.int .i64 (pairE a b)) ∧ Below w.heap.size w w' := by
  have ma := ha.len
  have mb := hb.len
  have CA := fun w h => RCheckWide_calls A ca a w h
  have CB := fun w h => RCheckWide_calls B cb b w h
  by_cases h1 : ckW a = 0
  · rw [h1] at CA
    by_cases h2 : ckW b = 0
    · rw [h2] at CB
      by_cases h3 : a.length = b.length
      · have H := Lib.hid (show pairE a b = 0 by unfold pairE; simp [h1, h2, h3])
        have i3 : ((a.length : Int) != (b.length : Int)) = false := by simp [h3]
        clear h1 h2 h3
        go_enter Try.func47, Try.ntmps47
        go_wp2_with fail
        refine (CA _ ha).mono ?_
        rintro e w1 ⟨rfl, b1⟩
        go_wp2_with fail
        refine (CB _ (hb.below b1)).mono ?_
        rintro e w2 ⟨rfl, b2⟩
        go_wp2_with fail
        go_ret
        rw [H.out]; exact ⟨rfl, below_trans b1 b2⟩
      · have H := Lib.hid (show pairE a b = 2 by unfold pairE; simp [h1, h2, h3])
        have i3 : ((a.length : Int) != (b.length : Int)) = true := by simp; omega
        clear h1 h2 h3
        go_enter Try.func47, Try.ntmps47
        go_wp2_with fail
        refine (CA _ ha).mono ?_
        rintro e w1 ⟨rfl, b1⟩
        go_wp2_with fail
        refine (CB _ (hb.below b1)).mono ?_
        rintro e w2 ⟨rfl, b2⟩
        go_wp2_with fail
        go_ret
        rw [H.out]; exact ⟨rfl, below_trans b1 b2⟩
    · have H := Lib.hid (show pairE a b = ckW b by unfold pairE; simp [h1, h2])
      generalize ckW b = eb at *
      have e1 : (eb == 0) = false := by simpa using h2
      clear h1 h2
      go_enter Try.func47, Try.ntmps47
      go_wp2_with fail
      refine (CA _ ha).mono ?_
      rintro e w1 ⟨rfl, b1⟩
      go_wp2_with fail
      refine (CB _ (hb.below b1)).mono ?_
      rintro e w2 ⟨rfl, b2⟩
      go_wp2_with fail
      go_ret
      rw [H.out]; exact ⟨rfl, below_trans b1 b2⟩
  · have H := Lib.hid (show pairE a b = ckW a by unfold pairE; simp [h1])
    generalize ckW a = ea at *
    have e1 : (ea == 0) = false := by simpa using h1
    clear h1
    go_enter Try.func47, Try.ntmps47
    go_wp2_with fail
    refine (CA _ ha).mono ?_
    rintro e w1 ⟨rfl, b1⟩
    go_wp2_with fail
    go_ret
    rw [H.out]; exact ⟨rfl, b1⟩
theorem RDist_calls (A B : Option Addr) (ca cb : Nat) (a b : List Int) (w : World) (ha : SlI w .i32 A ca a) (hb : SlI w .i32 B cb b) :
    Calls Try.prog 19 #[.slice A a.length ca, .slice B b.length cb] w fun e w' => e = .returned (.tuple #[.int .i64 (distI a b).1, .int .i64 (distI a b).2]) ∧ Below w.heap.size w w' := by
  have ma := ha.len
  have P := RBoth_calls A B ca cb a b w ha hb
  by_cases h0 : pairE a b = 0
  · have H := Lib.hid (show distI a b = (dsq a b a.length, 0) by unfold distI; rw [if_pos h0])
    obtain ⟨c1, c2, c3⟩ := pairE_ok h0
    obtain ⟨l1, l2, va⟩ := ckW_ok c1
    obtain ⟨_, _, vb⟩ := ckW_ok c2
    have VA := Lib.hid va
    have VB := Lib.hid vb
    have C3 := Lib.hid c3
    rw [h0] at P
    clear h0 c1 c2 va vb c3
    go_enter Try.func19, Try.ntmps19
    go_wp2_with fail
    refine P.mono ?_
    rintro e w1 ⟨rfl, b1⟩
    go_wp2_with fail
    go_loopg [7, 8, 9] (a.length + 1) (fun gk s i u9 w' => ∃ j : Nat, i = .int .i64 (j : Int) ∧ s = .int .i64 (dsq a b j) ∧ j ≤ a.length ∧ a.length < j + gk ∧ Below w.heap.size w w')
    case atStart => exact ⟨0, rfl, rfl, by omega, by omega, b1⟩
    case round =>
      clear b1
      obtain ⟨j, rfl, rfl, hj, hg, b1⟩ := hrel
      have hbd := dsq_bd VA.out VB.out j hj (by rw [← C3.out]; exact hj)
      by_cases hlt : j < a.length
      · have j1 : (j : Int) < (a.length : Int) := by omega
        have hltb : j < b.length := by rw [← C3.out]; exact hlt
        have j2 : (j : Int) < (b.length : Int) := by omega
        obtain ⟨aa, rfl, hca⟩ := (ha.below b1).get j hlt
        obtain ⟨ab, rfl, hcb⟩ := (hb.below b1).get j hltb
        have xa := VA.out _ (getD_mem hlt)
        have xb := VB.out _ (getD_mem hltb)
        have hn := dsq_bd VA.out VB.out (j + 1) hlt hltb
        have hs := Lib.hid (show dsq a b (j + 1) = dsq a b j + (a.getD j 0 - b.getD j 0) * (a.getD j 0 - b.getD j 0) from rfl)
        rw [hs.out] at hn
        have q0 : 0 ≤ (a.getD j 0 - b.getD j 0) * (a.getD j 0 - b.getD j 0) := by
          rcases Int.le_total 0 (a.getD j 0 - b.getD j 0) with h | h
          · exact Int.mul_nonneg h h
          · have := Int.mul_nonneg (show 0 ≤ -(a.getD j 0 - b.getD j 0) by omega) (show 0 ≤ -(a.getD j 0 - b.getD j 0) by omega)
            grind
        have q1 : (a.getD j 0 - b.getD j 0) * (a.getD j 0 - b.getD j 0) ≤ 70368744177664 := by omega
        generalize a.getD j 0 = u at *
        generalize b.getD j 0 = v at *
        generalize dsq a b j = S at *
        go_wp2_with fail
        go_quiet (fail)
        go_wp2_with fail
        go_roundg (gk - 1)
        case measure => omega
        case rel => exact ⟨j + 1, by simp, by rw [hs.out], by omega, by omega, below_trans b1 (below_drewN (Below.refl _ _) _)⟩
      · have j1 : ¬ (j : Int) < (a.length : Int) := by omega
        obtain rfl : j = a.length := by omega
        go_wp2_with fail
        go_ret2
        rw [H.out]; exact ⟨rfl, b1⟩
  · have H := Lib.hid (show distI a b = (0, pairE a b) by unfold distI; rw [if_neg h0])
    generalize pairE a b = ep at *
    have e1 : (ep != 0) = true := by simpa using h0
    clear h0
    go_enter Try.func19, Try.ntmps19
    go_wp2_with fail
    refine P.mono ?_
    rintro e w1 ⟨rfl, b1⟩
    go_wp2_with fail
    go_ret2
    rw [H.out]; exact ⟨rfl, b1⟩
end Go.Proofs.Ythpgaggceefamaa
