/- FloR: the reference's Fixed: its walk. -/
import Derived.Test.YtjdablkdndmcgaaKit
import Derived.Test.YtjdablkdndmcgaaFlo2
import Derived.WalkSpells
import Derived.Deep.DeepCutAuto
import Derived.Deep.CutBlock
namespace Go.Proofs.Ytjdablkdndmcgaa
set_option linter.unusedVariables false
set_option linter.unusedSimpArgs false
open Go.RowKit
theorem fix_bad (d f : Int) (h : f < 0 ∨ 15 < f) : fix d f = (0, 2) := by unfold fix; rw [if_pos h]
theorem whole_up (n f : Nat) (h : 1074 ≤ upN n + f) : wholeN n f = magN n * 2 ^ (upN n + f - 1074) := by
  have hE := unitExp_is
  unfold wholeN unit1
  have h1 := rhe_mul (magN n * 2 ^ (upN n + f - 1074)) 1 (2 ^ unitExp) (Nat.two_pow_pos _)
  rw [rhe_one, Nat.one_mul, Nat.mul_assoc, ← Nat.pow_add, show upN n + f - 1074 + unitExp = upN n + f by omega] at h1
  exact h1
theorem whole_dn (n f y : Nat) (h : upN n + f + y = 1074) : wholeN n f = rhe (magN n) (2 ^ y) := by
  have hE := unitExp_is
  unfold wholeN unit1
  have h1 := rhe_mul (magN n) (2 ^ y) (2 ^ (upN n + f)) (Nat.two_pow_pos _)
  rw [← Nat.pow_add, show y + (upN n + f) = unitExp by omega] at h1
  exact h1
theorem rhe_half (M y : Nat) (hy : 1 ≤ y) : rhe M (2 ^ y) = M / 2 ^ y + (if 2 ^ (y - 1) < M % 2 ^ y ∨ (M % 2 ^ y = 2 ^ (y - 1) ∧ M / 2 ^ y % 2 = 1) then 1 else 0) := by
  have h1 : 2 ^ y = 2 * 2 ^ (y - 1) := by
    rw [Nat.mul_comm, ← Nat.pow_succ, show (y - 1).succ = y by omega]
  unfold rhe
  have e1 : (2 ^ y < 2 * (M % 2 ^ y)) ↔ 2 ^ (y - 1) < M % 2 ^ y := by omega
  have e2 : (2 ^ y = 2 * (M % 2 ^ y)) ↔ M % 2 ^ y = 2 ^ (y - 1) := by omega
  simp only [e1, e2]
theorem whole_zero (n f y : Nat) (h : upN n + f + y = 1074) (hy : 61 ≤ y) : wholeN n f = 0 := by
  rw [whole_dn n f y h]
  refine rhe_small _ _ ?_
  have := magN_lt n
  have h2 : (2 : Nat) ^ 61 ≤ 2 ^ y := Nat.pow_le_pow_right (by decide) hy
  have h3 : (2 : Nat) ^ 61 = 2305843009213693952 := by decide
  omega
theorem wrap_nat (z : Nat) (hz : z < 18446744073709551616) : IntKind.u64.wrap (z : Int) = (z : Int) := by
  have e : IntKind.u64.wrap (z : Int) = (z : Int) % 18446744073709551616 := by simp [IntKind.wrap, IntKind.signed, IntKind.bits]
  rw [e]
  omega
theorem wrap_pow (y : Nat) (hy : y ≤ 63) : IntKind.u64.wrap (2 ^ y) = ((2 ^ y : Nat) : Int) := by
  have h1 : (2 : Nat) ^ y ≤ 2 ^ 63 := Nat.pow_le_pow_right (by decide) hy
  have h3 : (2 : Nat) ^ 63 = 9223372036854775808 := by decide
  rw [show ((2 : Int) ^ y) = ((2 ^ y : Nat) : Int) by exact_mod_cast rfl]
  generalize (2 : Nat) ^ y = z at h1
  have e : IntKind.u64.wrap (z : Int) = (z : Int) % 18446744073709551616 := by simp [IntKind.wrap, IntKind.signed, IntKind.bits]
  rw [e]
  omega
set_option maxHeartbeats 1000000 in
set_option maxRecDepth 20000 in
theorem RFixed_calls (d f : Int) (w : World) (h0 : 0 ≤ d) (h1 : d ≤ 18446744073709551615) :
    Calls Try.prog 10 #[.int .u64 d, .int .i64 f] w fun e w' => e = .returned (.tuple #[.int .i16 (fix d f).1, .int .i64 (fix d f).2]) ∧ w' = w := by
  obtain ⟨n, rfl⟩ := Int.eq_ofNat_of_zero_le h0
  by_cases hf1 : f < 0
  · rw [fix_bad _ _ (.inl hf1)]
    go_enter Try.func10, Try.ntmps10
    go_wp2
    go_ret2
    exact ⟨rfl, rfl⟩
  by_cases hf2 : 15 < f
  · rw [fix_bad _ _ (.inr hf2)]
    go_enter Try.func10, Try.ntmps10
    go_wp2
    go_ret2
    exact ⟨rfl, rfl⟩
  have hfx : fix n f = fixN n f.toNat := by unfold fix; rw [if_neg (by omega)]; rfl
  rw [hfx]
  obtain ⟨r, hr⟩ : ∃ r, r = fixN n f.toNat := ⟨_, rfl⟩
  rw [← hr]
  replace hr := Lib.hid hr
  go_enter Try.func10, Try.ntmps10
  go_upto_region 2 with fail
  rw [show (n : Int) / 4503599627370496 % 2048 = (powerN n : Int) by unfold powerN; omega, show (n : Int) % 4503599627370496 = (partN n : Int) by unfold partN; omega]
  have hpl : powerN n < 2048 := by unfold powerN; omega
  have hql : partN n < 4503599627370496 := by unfold partN; omega
  have hM := magN_lt n
  have hU : upN n < 2047 := by unfold upN; omega
  obtain ⟨p, hpe⟩ : ∃ p, p = powerN n := ⟨_, rfl⟩
  obtain ⟨q, hqe⟩ : ∃ q, q = partN n := ⟨_, rfl⟩
  obtain ⟨M, hMe⟩ : ∃ M, M = magN n := ⟨_, rfl⟩
  obtain ⟨U, hUe⟩ : ∃ U, U = upN n := ⟨_, rfl⟩
  rw [← hpe] at hpl ⊢
  rw [← hqe] at hql ⊢
  rw [← hMe] at hM
  rw [← hUe] at hU
  replace hpe := Lib.hid hpe
  replace hqe := Lib.hid hqe
  replace hMe := Lib.hid hMe
  replace hUe := Lib.hid hUe
  by_cases hp : p = 2047
  · subst hp
    by_cases hq : 0 < q
    · have HR := Lib.hid (show r = (0, 2) by rw [hr.out]; unfold fixN; rw [if_pos hpe.out.symm, if_pos (by rw [← hqe.out]; exact hq)])
      have hq' : (0 : Int) < (q : Int) := by omega
      go_wp2
      go_ret2
      rw [HR.out]
      exact ⟨rfl, rfl⟩
    · have HR := Lib.hid (show r = (0, 11) by rw [hr.out]; unfold fixN; rw [if_pos hpe.out.symm, if_neg (by rw [← hqe.out]; exact hq)])
      have hq' : ¬ (0 : Int) < (q : Int) := by omega
      go_wp2
      go_ret2
      rw [HR.out]
      exact ⟨rfl, rfl⟩
  have HP := Lib.hid (show powerN n ≠ 2047 from by rw [← hpe.out]; exact hp)
  have hp' : ¬ (p : Int) = 2047 := by omega
  go_upto_if 35 with fail
  go_cut [6, 7] (fun s6 s7 w' => s6 = .int .i64 ((U : Int) + 1) ∧ s7 = .int .u64 (M : Int) ∧ w' = w)
  case first =>
    by_cases h0 : 0 < p
    · go_wp2
      go_meet
      have e1 : (U : Int) + 1 = (p : Int) := by rw [hUe.out, hpe.out] at *; unfold upN; omega
      have e2 : (M : Int) = (q : Int) + 4503599627370496 := by rw [hMe.out, hqe.out]; unfold magN; rw [if_neg (by rw [← hpe.out]; omega)]; rfl
      exact ⟨by rw [e1], by rw [e2], rfl⟩
    · go_wp2
      go_meet
      have e1 : (U : Int) + 1 = 1 := by rw [hUe.out]; unfold upN; rw [← hpe.out]; omega
      have e2 : M = q := by rw [hMe.out, hqe.out]; unfold magN; rw [if_pos (by rw [← hpe.out]; omega)]
      exact ⟨by rw [e1], by rw [e2], rfl⟩
  case rest =>
    obtain ⟨rfl, rfl, rfl⟩ := hcut
    obtain ⟨W, rfl⟩ : ∃ W, W = wc := ⟨_, rfl⟩
    obtain ⟨k, rfl⟩ := Int.eq_ofNat_of_zero_le (show 0 ≤ f by omega)
    have hr' := hr.out
    rw [show ((k : Int)).toNat = k from rfl] at hr'
    replace hr := Lib.hid hr'
    clear hr' hfx
    obtain ⟨Y, hY⟩ : ∃ Y : Int, Y = (U : Int) + 1 - 1075 + (k : Int) := ⟨_, rfl⟩
    have hY0 : -1074 ≤ Y := by omega
    have hY1 : Y ≤ 2000 := by omega
    go_upto_block 0 with fail
    rw [← hY]
    replace hY := Lib.hid hY
    obtain ⟨N, hNe⟩ : ∃ N, N = wholeN n k := ⟨_, rfl⟩
    replace hNe := Lib.hid hNe
    go_cut [9] (fun s9 w' => s9 = .int .u64 (N : Int) ∧ w' = W)
    case first =>
      by_cases c1 : 0 ≤ Y
      · obtain ⟨y, rfl⟩ := Int.eq_ofNat_of_zero_le c1
        have HW := Lib.hid (show N = M * 2 ^ y by rw [hNe.out, hMe.out, whole_up n k (by have := hY.out; have := hUe.out; omega)]; congr 2; have := hY.out; have := hUe.out; omega)
        by_cases c2 : 11 < (y : Int)
        · by_cases c3 : 0 < M
          · go_wp2
            go_ret2
            have hz : r = (0, 11) := by
              have h52 : 4503599627370496 ≤ M := by
                have e1 := hUe.out
                have e2 := hY.out
                unfold upN at e1
                rw [hMe.out]; unfold magN
                rw [if_neg (by omega)]; omega
              have h1 : M * 1 ≤ M * 2 ^ y := Nat.mul_le_mul_left M (Nat.two_pow_pos _)
              have h2 : N = M * 2 ^ y := HW.out
              rw [hr.out]; unfold fixN
              rw [if_neg HP.out, ← hNe.out]
              split
              · rw [if_pos (by omega)]
              · rw [if_pos (by omega)]
            rw [hz]
            exact ⟨rfl, rfl⟩
          · obtain rfl : M = 0 := by omega
            go_wp2
            go_meet
            refine ⟨?_, rfl⟩
            rw [HW.out, Nat.zero_mul]; rfl
        · go_wp2
          go_meet
          refine ⟨?_, rfl⟩
          have h1 : 2 ^ y ≤ 2 ^ 11 := Nat.pow_le_pow_right (by decide) (by omega)
          have h2 : (2 : Nat) ^ 11 = 2048 := by decide
          have h3 : M * 2 ^ y ≤ M * 2048 := Nat.mul_le_mul_left M (by omega)
          rw [HW.out, show (M : Int) * 2 ^ y = ((M * 2 ^ y : Nat) : Int) by push_cast; rfl, wrap_nat _ (by omega)]
      · by_cases c2 : -60 ≤ Y
        · have c1' : ¬ 11 < Y := by omega
          obtain ⟨y, hy⟩ : ∃ y, y = (-Y).toNat := ⟨_, rfl⟩
          have hy1 : 1 ≤ y := by omega
          have hy2 : y ≤ 60 := by omega
          have HW := Lib.hid (show N = rhe M (2 ^ y) by rw [hNe.out, hMe.out, whole_dn n k y (by have := hY.out; have := hUe.out; omega)])
          have hz : ¬ IntKind.u64.wrap (2 ^ (-Y).toNat) = 0 := by
            rw [← hy, wrap_pow y (by omega)]
            have : 0 < 2 ^ y := Nat.two_pow_pos y
            omega
          go_upto_region 17 with fail
          rw [← hy]
          rw [← hy] at hz
          obtain ⟨L, hL⟩ : ∃ L, L = M / 2 ^ y := ⟨_, rfl⟩
          rw [show (M : Int) / 2 ^ y = (L : Int) by rw [hL]; push_cast; rfl]
          obtain ⟨R0, hR0⟩ : ∃ R0, R0 = M % 2 ^ y := ⟨_, rfl⟩
          obtain ⟨H0, hH0⟩ : ∃ H0, H0 = 2 ^ (y - 1) := ⟨_, rfl⟩
          replace hy := Lib.hid hy
          replace hL := Lib.hid hL
          replace hR0 := Lib.hid hR0
          replace hH0 := Lib.hid hH0
          go_cut [10, 11] (fun s10 s11 w' => s10 = .int .u64 (R0 : Int) ∧ s11 = .int .u64 (H0 : Int) ∧ w' = W)
          case first =>
            have hy' := hy.out
            rw [hy'] at hz
            go_wp2
            go_meet
            rw [← hy.out, wrap_pow y (by omega), wrap_pow (y - 1) (by omega), hR0.out, hH0.out]
            exact ⟨rfl, rfl, rfl⟩
          case rest =>
            obtain ⟨rfl, rfl, rfl⟩ := hcut
            obtain ⟨W, rfl⟩ : ∃ W, W = wc := ⟨_, rfl⟩
            have HV := Lib.hid (show N = L + (if H0 < R0 ∨ (R0 = H0 ∧ L % 2 = 1) then 1 else 0) by rw [HW.out, rhe_half M y hy1, hR0.out, hH0.out, hL.out])
            have hL9 : L < 9007199254740992 := Nat.lt_of_le_of_lt (by rw [hL.out]; exact Nat.div_le_self _ _) hM
            clear hz
            by_cases d1 : H0 < R0
            · go_wp2
              go_meet
              rw [HV.out, if_pos (.inl d1)]
              exact ⟨rfl, rfl⟩
            · by_cases d2 : R0 = H0
              · subst d2
                by_cases d3 : L % 2 = 1
                · have d3' : (L : Int) % 2 = 1 := by omega
                  go_wp2
                  go_meet
                  rw [HV.out, if_pos (.inr ⟨trivial, d3⟩)]
                  exact ⟨rfl, rfl⟩
                · have d3' : ¬ (L : Int) % 2 = 1 := by omega
                  go_wp2
                  go_meet
                  rw [HV.out, if_neg (by omega)]
                  exact ⟨rfl, rfl⟩
              · have d2' : ¬ (R0 : Int) = (H0 : Int) := by omega
                go_wp2
                go_meet
                rw [HV.out, if_neg (by omega)]
                exact ⟨rfl, rfl⟩
        · have c1' : ¬ 11 < Y := by omega
          go_wp2
          go_meet
          refine ⟨?_, rfl⟩
          rw [hNe.out, whole_zero n k (-Y).toNat (by have := hY.out; have := hUe.out; omega) (by omega)]; rfl
    case rest =>
      obtain ⟨rfl, rfl⟩ := hcut
      obtain ⟨W, rfl⟩ : ∃ W, W = wc := ⟨_, rfl⟩
      have hfin : r = if signN n then (if 32768 < N then (0, 11) else (-(N : Int), 0)) else if 32767 < N then (0, 11) else ((N : Int), 0) := by
        rw [hr.out]; unfold fixN; rw [if_neg HP.out, ← hNe.out]
      replace hfin := Lib.hid hfin
      by_cases hs : n / 9223372036854775808 = 1
      · have hsg : signN n = true := by unfold signN; rw [hs]; rfl
        have hs' : (n : Int) / 9223372036854775808 = 1 := by omega
        by_cases hb : 32768 < N
        · have hb' : (32768 : Int) < (N : Int) := by omega
          go_wp2
          go_ret2
          rw [hfin.out, if_pos hsg, if_pos hb]
          exact ⟨rfl, rfl⟩
        · have hb' : ¬ (32768 : Int) < (N : Int) := by omega
          have hb2 : (N : Int) ≤ 32768 := by omega
          go_wp2
          go_ret2
          rw [hfin.out, if_pos hsg, if_neg hb]
          exact ⟨rfl, rfl⟩
      · have hsg : ¬ signN n = true := by unfold signN; simp; omega
        have hs' : ¬ (n : Int) / 9223372036854775808 = 1 := by omega
        by_cases hb : 32767 < N
        · have hb' : (32767 : Int) < (N : Int) := by omega
          go_wp2
          go_ret2
          rw [hfin.out, if_neg hsg, if_pos hb]
          exact ⟨rfl, rfl⟩
        · have hb' : ¬ (32767 : Int) < (N : Int) := by omega
          have hb2 : (N : Int) ≤ 32767 := by omega
          go_wp2
          go_ret2
          rw [hfin.out, if_neg hsg, if_neg hb]
          exact ⟨rfl, rfl⟩
end Go.Proofs.Ytjdablkdndmcgaa
