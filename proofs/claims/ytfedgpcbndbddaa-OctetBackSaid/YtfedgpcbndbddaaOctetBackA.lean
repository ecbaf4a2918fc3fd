import Derived.Test.YtfedgpcbndbddaaOctetLaws6
namespace Go.Proofs.Ytfedgpcbndbddaa
set_option linter.unusedVariables false
set_option linter.unusedSimpArgs false
open Go.RowKit
set_option maxHeartbeats 4000000 in
set_option maxRecDepth 100000 in
theorem back_a (L Z : Option Addr) (cl cz : Nat) (l z : List Int) (w : World) (hL : SlI w .i64 L cl l) (hZ : SlI w .i64 Z cz z) (wl : ∀ x ∈ l, -9223372036854775808 ≤ x ∧ x ≤ 9223372036854775807) (hl : l.length ≤ 60) (hz : z.length ≤ 60) (hlz : l.length ≤ z.length) :
    Calls Try.prog 8 #[.slice L l.length cl, .slice Z z.length cz] w fun e w' => e = .returned (.bool true) ∧ Below w.heap.size w w' := by
  have i1 : ¬ (l.length : Int) > 60 := by omega
  have i2 : ¬ (z.length : Int) > 60 := by omega
  obtain ⟨K, hK⟩ : ∃ K : Nat, Hid (K = min l.length z.length) := ⟨_, Lib.hid rfl⟩
  have K1 : K ≤ l.length := by have := hK.out; omega
  have K2 : K ≤ z.length := by have := hK.out; omega
  have K3 : K = l.length ∨ K = z.length := by have := hK.out; omega
  go_enter Try.func8, Try.ntmps8
  go_wp2_with fail
  refine (lives_calls _).mono ?_
  rintro e w1 ⟨rfl, b1⟩
  go_wp2_with fail
  go_loopg [5, 6] (K + 1) (fun gk b i w' => ∃ (j : Nat) (A : Option Addr) (c : Nat), i = .int .i64 (j : Int) ∧ j ≤ K ∧ K < j + gk ∧ b = .slice A (enc l z j).length c ∧ SlI w' .u8 A c (enc l z j) ∧ Below w.heap.size w w')
  case atStart => exact ⟨0, none, 0, rfl, by omega, by omega, rfl, SlI.nil _ _, b1⟩
  case round =>
    clear b1
    obtain ⟨j, A, c, rfl, hj, hg, rfl, hA, hb⟩ := hrel
    by_cases hlt : j < K
    · have j1 : (j : Int) < (l.length : Int) := by omega
      have j2 : (j : Int) < (z.length : Int) := by omega
      obtain ⟨al, rfl, hc1⟩ := (hL.below hb).get j (by omega)
      obtain ⟨az, rfl, hc2⟩ := (hZ.below hb).get j (by omega)
      have hlen := enc_len l z j
      have hP := Lib.hid (show enc l z j ++ lowB (xAt l j) (many8 (1 + z.getD j 0 % 8)) = enc l z (j + 1) by rw [many8_m]; rfl)
      have hw1 : IntKind.u64.wrap (l.getD j 0) = xAt l j := by rw [IntKind.wrap_u64]; rfl
      have hw2 : IntKind.i64.wrap (1 + z.getD j 0 % 8) = 1 + z.getD j 0 % 8 := by rw [IntKind.wrap_i64]; omega
      have PUT : ∀ w', SlI w' .u8 A c (enc l z j) → Calls Try.prog 12 #[.slice A (enc l z j).length c, .int .u64 (IntKind.u64.wrap (l.getD j 0)), .int .i64 (IntKind.i64.wrap (1 + z.getD j 0 % 8))] w' fun e w'' => RetOwn 5 .u8 (enc l z (j + 1)) w' e w'' := fun w' h' => by
        rw [hw1, hw2]; exact Put_is A c _ _ _ w' h' (by omega) _ hP
      clear hw1 hw2 hP
      generalize hlj : l.getD j 0 = lj at *
      generalize hzj : z.getD j 0 = zj at *
      generalize hE : enc l z j = E at *
      generalize hE1 : enc l z (j + 1) = E1 at *
      have hEl : E.length ≤ 480 := by omega
      go_wp2_with fail
      go_region_held3 (fun w' => w'.cell? (al.add j) = some (.int .i64 lj) ∧ w'.cell? (az.add j) = some (.int .i64 zj))
        (first
          | go_keep
          | exact ⟨cell_below b5 _ _ (by assumption), cell_below b5 _ _ (by assumption)⟩
          | (trace_state; fail))
        (first
          | (go_at_call 21; refine (Pick_calls zj 8 _ (by decide) (by decide)).mono ?_; rintro en w4 ⟨rfl, rfl⟩)
          | (go_at_call 12; refine (PUT _ (hA.below (Below.refl _ _).drew)).mono ?_; rintro en w5 ⟨A5, c5, rfl, h5, b5⟩))
      go_wp2_with fail
      subst hE1
      go_roundg (gk - 1)
      case measure => omega
      case rel => exact ⟨j + 1, A5, c5, by simp, by omega, by omega, rfl, OwnI.sl h5, below_trans hb.drew b5⟩
    · have hj2 : j = K := by omega
      subst hj2
      have hER := enc_rest l z j 0
      rw [show enc l z 0 = [] by rfl, List.nil_append, Nat.zero_add] at hER
      have hlen := enc_len l z j
      have k1 : ¬ (j : Int) < (l.length : Int) := by omega
      have HE : Hid (enc l z j = rest l z 0 j) := hER.symm
      clear hER
      generalize enc l z j = E at *
      have hEl : E.length ≤ 480 := by omega
      go_wp2_with fail
      refine (New_calls A c E _ hA (by omega)).mono ?_
      rintro e w3 ⟨p, rfl, p0, p1, r3, b3⟩
      have hb3 := below_trans hb b3
      have hA3 := hA.below b3
      have pw : w.heap.size ≤ p := Nat.le_trans hb.size p0
      go_wp2_with fail
      refine (New_calls A c E _ hA3 (by omega)).mono ?_
      rintro e w4 ⟨q, rfl, q0, q1, s4, b4⟩
      have r4 := r3.below b4
      have hb4 := below_trans hb3 b4
      have qw : w.heap.size ≤ q := Nat.le_trans hb3.size q0
      generalize wr.heap.size = lo at *
      generalize w3.heap.size = lo2 at *
      rw [HE.out] at r4 s4
      clear hb3 b3 b4 r3 hA hA3
      go_wp2_with fail
      go_loopg [9, 10, 11, 12, 13] (j + 1) (fun gk i u10 u11 u12 u13 w' => ∃ t : Nat, i = .int .i64 (t : Int) ∧ t ≤ j ∧ j < t + gk ∧ Rdr w' lo p (rest l z t (j - t)) 0 ∧ Rdr w' lo2 q (rest l z t (j - t)) 0 ∧ Below w.heap.size w w')
      case atStart => exact ⟨0, rfl, by omega, by omega, r4, s4, hb4⟩
      case round =>
        clear r4 s4 hb4
        obtain ⟨t, rfl, ht, hg2, r5, s5, hb5⟩ := hrel
        by_cases hlt2 : t < j
        · have t1 : (t : Int) < (l.length : Int) := by omega
          have t2 : (t : Int) < (z.length : Int) := by omega
          obtain ⟨al, rfl, hc0⟩ := hL.get t (by omega)
          obtain ⟨az, rfl, hc2⟩ := (hZ.below hb5).get t (by omega)
          have hal := World.block_lt_of_cell? _ _ hc0
          have hc1 := cell_below hb5 _ _ hc0
          clear hc0
          have ms : mAt z t ≤ 8 := (mAt_le z t).2.1
          have hTK := tk_rest l z t (j - t - 1)
          rw [show j - t - 1 + 1 = j - t by omega] at hTK
          have hRB := rest_bytes l z (j - t) t
          have hRB2 := rest_bytes l z (j - t - 1) (t + 1)
          have hmm := (mAt_le z t).2.2
          have hof := ofB_lowB (xAt l t) (mAt z t)
          rw [← take8_lowB (xAt l t) ms] at hof
          have hlw : -9223372036854775808 ≤ l.getD t 0 ∧ l.getD t 0 ≤ 9223372036854775807 := by
            rw [List.getD_eq_getElem?_getD, List.getElem?_eq_getElem (by omega)]; exact wl _ (List.getElem_mem _)
          have hxat : xAt l t = l.getD t 0 % 18446744073709551616 := rfl
          generalize hlj : l.getD t 0 = lj at *
          generalize hzj : z.getD t 0 = zj at *
          generalize mAt z t = m at *
          generalize xAt l t = X at *
          generalize lowB X m = T at *
          generalize hR : rest l z t (j - t) = R at *
          generalize hR2 : rest l z (t + 1) (j - t - 1) = R2 at *
          have k8 : zj % 8 = 0 ∨ zj % 8 = 1 ∨ zj % 8 = 2 ∨ zj % 8 = 3 ∨ zj % 8 = 4 ∨ zj % 8 = 5 ∨ zj % 8 = 6 ∨ zj % 8 = 7 := by omega
          rcases k8 with k8 | k8 | k8 | k8 | k8 | k8 | k8 | k8
          · have HK := Lib.hid k8
            have hm1 : m = 1 := by omega
            subst hm1
            have HT := Lib.hid hTK
            obtain ⟨x, HV⟩ : ∃ x, Hid (ofB (T.take 8) = x) := ⟨_, Lib.hid rfl⟩
            obtain ⟨y, HS⟩ : ∃ y, Hid (sgn8 (ofB (T.take 8)) 1 = y) := ⟨_, Lib.hid rfl⟩
            have hx1 : x = lj % 256 := by rw [← HV.out, hof, hxat]; omega
            have hy1 : y = (x + 128) % 256 - 128 := by rw [← HS.out, HV.out]; simp [sgn8]
            have f1 : (IntKind.u64.wrap lj).tmod 256 = x := by rw [IntKind.wrap_u64, Int.tmod_eq_emod_of_nonneg (by omega)]; omega
            have f2 : x < 256 := by omega
            have f3 : (IntKind.u64.wrap y).tmod 256 = x := by rw [IntKind.wrap_u64, Int.tmod_eq_emod_of_nonneg (by omega)]; omega
            have f4 : y < 128 := by omega
            have f5 : -128 ≤ y := by omega
            clear hTK hof hxat hmm k8 ms hx1 hy1
            go_wp2_with fail
            refine (HK.out ▸ Pick_calls zj 8 _ (by decide) (by decide) : Calls Try.prog 21 #[.int .i64 zj, .int .i64 8] _ fun e w' => e = .returned (.int .i64 0) ∧ _ = w').mono ?_
            rintro en w' ⟨rfl, rfl⟩
            go_wp2_with fail
            refine (Number_calls _ p R 0 1 _ r5 hRB T R2 0 HT _ HV).mono ?_
            rintro en w6 ⟨rfl, r6, g6⟩
            have s6 := s5.grown g6 (by omega) (by omega)
            have hc16 := g6.cell hc1 (by simp; omega)
            have hb6 := below_grown_p hb5 g6 pw
            clear r5 s5 g6 hb5 hc1 hc2
            go_wp2_with fail
            refine (RdSigned_calls _ q R 0 1 _ s6 hRB T R2 0 HT _ HS).mono ?_
            rintro en w7 ⟨rfl, s7, g7⟩
            have hc17 := g7.cell hc16 (by simp; omega)
            have r7 := r6.grown g7 (by omega) (by omega)
            have hb7 := below_grown_p hb6 g7 qw
            clear r6 s6 g7 hb6 hc16
            go_wp2_with fail
            go_roundg (gk - 1)
            case measure => omega
            case rel => exact ⟨t + 1, by simp, by omega, by omega, by rw [show j - (t + 1) = j - t - 1 by omega, hR2]; exact r7, by rw [show j - (t + 1) = j - t - 1 by omega, hR2]; exact s7, hb7⟩
          · have HK := Lib.hid k8
            have hm1 : m = 2 := by omega
            subst hm1
            have HT := Lib.hid hTK
            obtain ⟨x, HV⟩ : ∃ x, Hid (ofB (T.take 8) = x) := ⟨_, Lib.hid rfl⟩
            obtain ⟨y, HS⟩ : ∃ y, Hid (sgn8 (ofB (T.take 8)) 2 = y) := ⟨_, Lib.hid rfl⟩
            have hx1 : x = lj % 65536 := by rw [← HV.out, hof, hxat]; omega
            have hy1 : y = (x + 32768) % 65536 - 32768 := by rw [← HS.out, HV.out]; simp [sgn8]
            have f1 : (IntKind.u64.wrap lj).tmod 65536 = x := by rw [IntKind.wrap_u64, Int.tmod_eq_emod_of_nonneg (by omega)]; omega
            have f2 : x < 65536 := by omega
            have f3 : (IntKind.u64.wrap y).tmod 65536 = x := by rw [IntKind.wrap_u64, Int.tmod_eq_emod_of_nonneg (by omega)]; omega
            have f4 : y < 32768 := by omega
            have f5 : -32768 ≤ y := by omega
            clear hTK hof hxat hmm k8 ms hx1 hy1
            go_wp2_with fail
            refine (HK.out ▸ Pick_calls zj 8 _ (by decide) (by decide) : Calls Try.prog 21 #[.int .i64 zj, .int .i64 8] _ fun e w' => e = .returned (.int .i64 1) ∧ _ = w').mono ?_
            rintro en w' ⟨rfl, rfl⟩
            go_wp2_with fail
            refine (Number_calls _ p R 0 2 _ r5 hRB T R2 0 HT _ HV).mono ?_
            rintro en w6 ⟨rfl, r6, g6⟩
            have s6 := s5.grown g6 (by omega) (by omega)
            have hc16 := g6.cell hc1 (by simp; omega)
            have hb6 := below_grown_p hb5 g6 pw
            clear r5 s5 g6 hb5 hc1 hc2
            go_wp2_with fail
            refine (RdSigned_calls _ q R 0 2 _ s6 hRB T R2 0 HT _ HS).mono ?_
            rintro en w7 ⟨rfl, s7, g7⟩
            have hc17 := g7.cell hc16 (by simp; omega)
            have r7 := r6.grown g7 (by omega) (by omega)
            have hb7 := below_grown_p hb6 g7 qw
            clear r6 s6 g7 hb6 hc16
            go_wp2_with fail
            go_roundg (gk - 1)
            case measure => omega
            case rel => exact ⟨t + 1, by simp, by omega, by omega, by rw [show j - (t + 1) = j - t - 1 by omega, hR2]; exact r7, by rw [show j - (t + 1) = j - t - 1 by omega, hR2]; exact s7, hb7⟩
          · have HK := Lib.hid k8
            have hm1 : m = 3 := by omega
            subst hm1
            have HT := Lib.hid hTK
            obtain ⟨x, HV⟩ : ∃ x, Hid (ofB (T.take 8) = x) := ⟨_, Lib.hid rfl⟩
            obtain ⟨y, HS⟩ : ∃ y, Hid (sgn8 (ofB (T.take 8)) 3 = y) := ⟨_, Lib.hid rfl⟩
            have hx1 : x = lj % 16777216 := by rw [← HV.out, hof, hxat]; omega
            have hy1 : y = (x + 8388608) % 16777216 - 8388608 := by rw [← HS.out, HV.out]; simp [sgn8]
            have f1 : (IntKind.u64.wrap lj).tmod 16777216 = x := by rw [IntKind.wrap_u64, Int.tmod_eq_emod_of_nonneg (by omega)]; omega
            have f2 : x < 16777216 := by omega
            have f3 : (IntKind.u64.wrap y).tmod 16777216 = x := by rw [IntKind.wrap_u64, Int.tmod_eq_emod_of_nonneg (by omega)]; omega
            have f4 : y < 8388608 := by omega
            have f5 : -8388608 ≤ y := by omega
            clear hTK hof hxat hmm k8 ms hx1 hy1
            go_wp2_with fail
            refine (HK.out ▸ Pick_calls zj 8 _ (by decide) (by decide) : Calls Try.prog 21 #[.int .i64 zj, .int .i64 8] _ fun e w' => e = .returned (.int .i64 2) ∧ _ = w').mono ?_
            rintro en w' ⟨rfl, rfl⟩
            go_wp2_with fail
            refine (Number_calls _ p R 0 3 _ r5 hRB T R2 0 HT _ HV).mono ?_
            rintro en w6 ⟨rfl, r6, g6⟩
            have s6 := s5.grown g6 (by omega) (by omega)
            have hc16 := g6.cell hc1 (by simp; omega)
            have hb6 := below_grown_p hb5 g6 pw
            clear r5 s5 g6 hb5 hc1 hc2
            go_wp2_with fail
            refine (RdSigned_calls _ q R 0 3 _ s6 hRB T R2 0 HT _ HS).mono ?_
            rintro en w7 ⟨rfl, s7, g7⟩
            have hc17 := g7.cell hc16 (by simp; omega)
            have r7 := r6.grown g7 (by omega) (by omega)
            have hb7 := below_grown_p hb6 g7 qw
            clear r6 s6 g7 hb6 hc16
            go_wp2_with fail
            go_roundg (gk - 1)
            case measure => omega
            case rel => exact ⟨t + 1, by simp, by omega, by omega, by rw [show j - (t + 1) = j - t - 1 by omega, hR2]; exact r7, by rw [show j - (t + 1) = j - t - 1 by omega, hR2]; exact s7, hb7⟩
          · have HK := Lib.hid k8
            have hm1 : m = 4 := by omega
            subst hm1
            have HT := Lib.hid hTK
            obtain ⟨x, HV⟩ : ∃ x, Hid (ofB (T.take 8) = x) := ⟨_, Lib.hid rfl⟩
            obtain ⟨y, HS⟩ : ∃ y, Hid (sgn8 (ofB (T.take 8)) 4 = y) := ⟨_, Lib.hid rfl⟩
            have hx1 : x = lj % 4294967296 := by rw [← HV.out, hof, hxat]; omega
            have hy1 : y = (x + 2147483648) % 4294967296 - 2147483648 := by rw [← HS.out, HV.out]; simp [sgn8]
            have f1 : (IntKind.u64.wrap lj).tmod 4294967296 = x := by rw [IntKind.wrap_u64, Int.tmod_eq_emod_of_nonneg (by omega)]; omega
            have f2 : x < 4294967296 := by omega
            have f3 : (IntKind.u64.wrap y).tmod 4294967296 = x := by rw [IntKind.wrap_u64, Int.tmod_eq_emod_of_nonneg (by omega)]; omega
            have f4 : y < 2147483648 := by omega
            have f5 : -2147483648 ≤ y := by omega
            clear hTK hof hxat hmm k8 ms hx1 hy1
            go_wp2_with fail
            refine (HK.out ▸ Pick_calls zj 8 _ (by decide) (by decide) : Calls Try.prog 21 #[.int .i64 zj, .int .i64 8] _ fun e w' => e = .returned (.int .i64 3) ∧ _ = w').mono ?_
            rintro en w' ⟨rfl, rfl⟩
            go_wp2_with fail
            refine (Number_calls _ p R 0 4 _ r5 hRB T R2 0 HT _ HV).mono ?_
            rintro en w6 ⟨rfl, r6, g6⟩
            have s6 := s5.grown g6 (by omega) (by omega)
            have hc16 := g6.cell hc1 (by simp; omega)
            have hb6 := below_grown_p hb5 g6 pw
            clear r5 s5 g6 hb5 hc1 hc2
            go_wp2_with fail
            refine (RdSigned_calls _ q R 0 4 _ s6 hRB T R2 0 HT _ HS).mono ?_
            rintro en w7 ⟨rfl, s7, g7⟩
            have hc17 := g7.cell hc16 (by simp; omega)
            have r7 := r6.grown g7 (by omega) (by omega)
            have hb7 := below_grown_p hb6 g7 qw
            clear r6 s6 g7 hb6 hc16
            go_wp2_with fail
            go_roundg (gk - 1)
            case measure => omega
            case rel => exact ⟨t + 1, by simp, by omega, by omega, by rw [show j - (t + 1) = j - t - 1 by omega, hR2]; exact r7, by rw [show j - (t + 1) = j - t - 1 by omega, hR2]; exact s7, hb7⟩
          · have HK := Lib.hid k8
            have hm1 : m = 5 := by omega
            subst hm1
            have HT := Lib.hid hTK
            obtain ⟨x, HV⟩ : ∃ x, Hid (ofB (T.take 8) = x) := ⟨_, Lib.hid rfl⟩
            obtain ⟨y, HS⟩ : ∃ y, Hid (sgn8 (ofB (T.take 8)) 5 = y) := ⟨_, Lib.hid rfl⟩
            have hx1 : x = lj % 1099511627776 := by rw [← HV.out, hof, hxat]; omega
            have hy1 : y = (x + 549755813888) % 1099511627776 - 549755813888 := by rw [← HS.out, HV.out]; simp [sgn8]
            have f1 : (IntKind.u64.wrap lj).tmod 1099511627776 = x := by rw [IntKind.wrap_u64, Int.tmod_eq_emod_of_nonneg (by omega)]; omega
            have f2 : x < 1099511627776 := by omega
            have f3 : (IntKind.u64.wrap y).tmod 1099511627776 = x := by rw [IntKind.wrap_u64, Int.tmod_eq_emod_of_nonneg (by omega)]; omega
            have f4 : y < 549755813888 := by omega
            have f5 : -549755813888 ≤ y := by omega
            clear hTK hof hxat hmm k8 ms hx1 hy1
            go_wp2_with fail
            refine (HK.out ▸ Pick_calls zj 8 _ (by decide) (by decide) : Calls Try.prog 21 #[.int .i64 zj, .int .i64 8] _ fun e w' => e = .returned (.int .i64 4) ∧ _ = w').mono ?_
            rintro en w' ⟨rfl, rfl⟩
            go_wp2_with fail
            refine (Number_calls _ p R 0 5 _ r5 hRB T R2 0 HT _ HV).mono ?_
            rintro en w6 ⟨rfl, r6, g6⟩
            have s6 := s5.grown g6 (by omega) (by omega)
            have hc16 := g6.cell hc1 (by simp; omega)
            have hb6 := below_grown_p hb5 g6 pw
            clear r5 s5 g6 hb5 hc1 hc2
            go_wp2_with fail
            refine (RdSigned_calls _ q R 0 5 _ s6 hRB T R2 0 HT _ HS).mono ?_
            rintro en w7 ⟨rfl, s7, g7⟩
            have hc17 := g7.cell hc16 (by simp; omega)
            have r7 := r6.grown g7 (by omega) (by omega)
            have hb7 := below_grown_p hb6 g7 qw
            clear r6 s6 g7 hb6 hc16
            go_wp2_with fail
            go_roundg (gk - 1)
            case measure => omega
            case rel => exact ⟨t + 1, by simp, by omega, by omega, by rw [show j - (t + 1) = j - t - 1 by omega, hR2]; exact r7, by rw [show j - (t + 1) = j - t - 1 by omega, hR2]; exact s7, hb7⟩
          · have HK := Lib.hid k8
            have hm1 : m = 6 := by omega
            subst hm1
            have HT := Lib.hid hTK
            obtain ⟨x, HV⟩ : ∃ x, Hid (ofB (T.take 8) = x) := ⟨_, Lib.hid rfl⟩
            obtain ⟨y, HS⟩ : ∃ y, Hid (sgn8 (ofB (T.take 8)) 6 = y) := ⟨_, Lib.hid rfl⟩
            have hx1 : x = lj % 281474976710656 := by rw [← HV.out, hof, hxat]; omega
            have hy1 : y = (x + 140737488355328) % 281474976710656 - 140737488355328 := by rw [← HS.out, HV.out]; simp [sgn8]
            have f1 : (IntKind.u64.wrap lj).tmod 281474976710656 = x := by rw [IntKind.wrap_u64, Int.tmod_eq_emod_of_nonneg (by omega)]; omega
            have f2 : x < 281474976710656 := by omega
            have f3 : (IntKind.u64.wrap y).tmod 281474976710656 = x := by rw [IntKind.wrap_u64, Int.tmod_eq_emod_of_nonneg (by omega)]; omega
            have f4 : y < 140737488355328 := by omega
            have f5 : -140737488355328 ≤ y := by omega
            clear hTK hof hxat hmm k8 ms hx1 hy1
            go_wp2_with fail
            refine (HK.out ▸ Pick_calls zj 8 _ (by decide) (by decide) : Calls Try.prog 21 #[.int .i64 zj, .int .i64 8] _ fun e w' => e = .returned (.int .i64 5) ∧ _ = w').mono ?_
            rintro en w' ⟨rfl, rfl⟩
            go_wp2_with fail
            refine (Number_calls _ p R 0 6 _ r5 hRB T R2 0 HT _ HV).mono ?_
            rintro en w6 ⟨rfl, r6, g6⟩
            have s6 := s5.grown g6 (by omega) (by omega)
            have hc16 := g6.cell hc1 (by simp; omega)
            have hb6 := below_grown_p hb5 g6 pw
            clear r5 s5 g6 hb5 hc1 hc2
            go_wp2_with fail
            refine (RdSigned_calls _ q R 0 6 _ s6 hRB T R2 0 HT _ HS).mono ?_
            rintro en w7 ⟨rfl, s7, g7⟩
            have hc17 := g7.cell hc16 (by simp; omega)
            have r7 := r6.grown g7 (by omega) (by omega)
            have hb7 := below_grown_p hb6 g7 qw
            clear r6 s6 g7 hb6 hc16
            go_wp2_with fail
            go_roundg (gk - 1)
            case measure => omega
            case rel => exact ⟨t + 1, by simp, by omega, by omega, by rw [show j - (t + 1) = j - t - 1 by omega, hR2]; exact r7, by rw [show j - (t + 1) = j - t - 1 by omega, hR2]; exact s7, hb7⟩
          · have HK := Lib.hid k8
            have hm1 : m = 7 := by omega
            subst hm1
            have HT := Lib.hid hTK
            obtain ⟨x, HV⟩ : ∃ x, Hid (ofB (T.take 8) = x) := ⟨_, Lib.hid rfl⟩
            obtain ⟨y, HS⟩ : ∃ y, Hid (sgn8 (ofB (T.take 8)) 7 = y) := ⟨_, Lib.hid rfl⟩
            have hx1 : x = lj % 72057594037927936 := by rw [← HV.out, hof, hxat]; omega
            have hy1 : y = (x + 36028797018963968) % 72057594037927936 - 36028797018963968 := by rw [← HS.out, HV.out]; simp [sgn8]
            have f1 : (IntKind.u64.wrap lj).tmod 72057594037927936 = x := by rw [IntKind.wrap_u64, Int.tmod_eq_emod_of_nonneg (by omega)]; omega
            have f2 : x < 72057594037927936 := by omega
            have f3 : (IntKind.u64.wrap y).tmod 72057594037927936 = x := by rw [IntKind.wrap_u64, Int.tmod_eq_emod_of_nonneg (by omega)]; omega
            have f4 : y < 36028797018963968 := by omega
            have f5 : -36028797018963968 ≤ y := by omega
            clear hTK hof hxat hmm k8 ms hx1 hy1
            go_wp2_with fail
            refine (HK.out ▸ Pick_calls zj 8 _ (by decide) (by decide) : Calls Try.prog 21 #[.int .i64 zj, .int .i64 8] _ fun e w' => e = .returned (.int .i64 6) ∧ _ = w').mono ?_
            rintro en w' ⟨rfl, rfl⟩
            go_wp2_with fail
            refine (Number_calls _ p R 0 7 _ r5 hRB T R2 0 HT _ HV).mono ?_
            rintro en w6 ⟨rfl, r6, g6⟩
            have s6 := s5.grown g6 (by omega) (by omega)
            have hc16 := g6.cell hc1 (by simp; omega)
            have hb6 := below_grown_p hb5 g6 pw
            clear r5 s5 g6 hb5 hc1 hc2
            go_wp2_with fail
            refine (RdSigned_calls _ q R 0 7 _ s6 hRB T R2 0 HT _ HS).mono ?_
            rintro en w7 ⟨rfl, s7, g7⟩
            have hc17 := g7.cell hc16 (by simp; omega)
            have r7 := r6.grown g7 (by omega) (by omega)
            have hb7 := below_grown_p hb6 g7 qw
            clear r6 s6 g7 hb6 hc16
            go_wp2_with fail
            go_roundg (gk - 1)
            case measure => omega
            case rel => exact ⟨t + 1, by simp, by omega, by omega, by rw [show j - (t + 1) = j - t - 1 by omega, hR2]; exact r7, by rw [show j - (t + 1) = j - t - 1 by omega, hR2]; exact s7, hb7⟩
          · have HK := Lib.hid k8
            have hm1 : m = 8 := by omega
            subst hm1
            have HT := Lib.hid hTK
            obtain ⟨x, HV⟩ : ∃ x, Hid (ofB (T.take 8) = x) := ⟨_, Lib.hid rfl⟩
            have hx1 : x = lj % 18446744073709551616 := by rw [← HV.out, hof, hxat]; omega
            have HS : Hid (sgn8 (ofB (T.take 8)) 8 = lj) := by show _ = _; rw [HV.out, hx1]; simp [sgn8]; omega
            have f1 : IntKind.u64.wrap lj = x := by rw [IntKind.wrap_u64, hx1]
            clear hTK hof hxat hmm k8 ms hx1
            go_wp2_with fail
            refine (HK.out ▸ Pick_calls zj 8 _ (by decide) (by decide) : Calls Try.prog 21 #[.int .i64 zj, .int .i64 8] _ fun e w' => e = .returned (.int .i64 7) ∧ _ = w').mono ?_
            rintro en w' ⟨rfl, rfl⟩
            go_wp2_with fail
            refine (Number_calls _ p R 0 8 _ r5 hRB T R2 0 HT _ HV).mono ?_
            rintro en w6 ⟨rfl, r6, g6⟩
            have s6 := s5.grown g6 (by omega) (by omega)
            have hc16 := g6.cell hc1 (by simp; omega)
            have hb6 := below_grown_p hb5 g6 pw
            clear r5 s5 g6 hb5 hc1 hc2
            go_wp2_with fail
            refine (RdSigned_calls _ q R 0 8 _ s6 hRB T R2 0 HT _ HS).mono ?_
            rintro en w7 ⟨rfl, s7, g7⟩
            have hc17 := g7.cell hc16 (by simp; omega)
            have r7 := r6.grown g7 (by omega) (by omega)
            have hb7 := below_grown_p hb6 g7 qw
            clear r6 s6 g7 hb6 hc16
            go_wp2_with fail
            go_roundg (gk - 1)
            case measure => omega
            case rel => exact ⟨t + 1, by simp, by omega, by omega, by rw [show j - (t + 1) = j - t - 1 by omega, hR2]; exact r7, by rw [show j - (t + 1) = j - t - 1 by omega, hR2]; exact s7, hb7⟩
        · have ht2 : t = j := by omega
          subst ht2
          rw [Nat.sub_self] at r5 s5
          have h5e : ∀ w', Rdr w' lo p (rest l z t 0) 0 → Calls Try.prog 25 #[.pointer (some ⟨p, 0, none⟩)] w' fun en w'' => en = .returned (.int .i64 0) ∧ w' = w'' := fun w' h' => End_calls _ _ _ _ w' h'
          have h6e : ∀ w', Rdr w' lo2 q (rest l z t 0) 0 → Calls Try.prog 25 #[.pointer (some ⟨q, 0, none⟩)] w' fun en w'' => en = .returned (.int .i64 0) ∧ w' = w'' := fun w' h' => End_calls _ _ _ _ w' h'
          go_wp2_with fail
          refine (h5e _ r5).mono ?_
          rintro en w' ⟨rfl, rfl⟩
          go_wp2_with fail
          refine (h6e _ s5).mono ?_
          rintro en w' ⟨rfl, rfl⟩
          go_wp2_with fail
          go_ret
          exact ⟨rfl, hb5⟩
end Go.Proofs.Ytfedgpcbndbddaa
