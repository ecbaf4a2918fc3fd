/- FloL: math.Ldexp of a double that is whole and small, by a power of two from -15 to 0. -/
import Derived.Test.YtjdablkdndmcgaaFloV
import Derived.Test.YtjdablkdndmcgaaFloR
import Derived.Laws.BitsAllLaws
import Derived.Deep.DeepCutAuto
import Derived.Deep.CutBlock
namespace Go.Proofs.Ytjdablkdndmcgaa
set_option linter.unusedVariables false
set_option linter.unusedSimpArgs false
open Go.RowKit
/-- A normal double whose power is about that of a whole number. -/
structure Nrm (d : Nat) : Prop where
  lt : d < 18446744073709551616
  p0 : 1000 ≤ powerN d
  p1 : powerN d ≤ 1100
theorem Nrm.split {d : Nat} (h : Nrm d) : d = (signN d).toNat * 9223372036854775808 + powerN d * 4503599627370496 + partN d := by
  have h1 := h.lt
  have hs : (signN d).toNat = d / 9223372036854775808 := by
    unfold signN
    have : d / 9223372036854775808 = 0 ∨ d / 9223372036854775808 = 1 := by omega
    rcases this with e | e <;> rw [e] <;> rfl
  rw [hs]
  unfold powerN partN
  omega
theorem Nrm.mag {d : Nat} (h : Nrm d) : 4503599627370496 ≤ magN d ∧ magN d < 9007199254740992 ∧ powerN d = upN d + 1 ∧ magN d = partN d + 4503599627370496 := by
  have := h.p0
  refine ⟨?_, magN_lt d, by unfold upN; omega, ?_⟩ <;> unfold magN <;> rw [if_neg (by omega)]
  omega
theorem Nrm.read {d : Nat} (h : Nrm d) : Ieee.double.read d = .number (signN d) (magN d) ((upN d : Int) - 1074) := read_num d (by have := h.p1; omega)
/-- A number that is written just so. -/
theorem nearest_norm (s : Bool) (M a U : Nat) (h0 : 4503599627370496 ≤ M) (h1 : M < 9007199254740992) (hU : U ≤ 2000) :
    Ieee.double.nearest s (M * 2 ^ a) ((U : Int) - 1074 - a) = Ieee.double.word s (U * 4503599627370496 + M) := by
  have h2 : Ieee.double.binade = 4503599627370496 := by decide
  have h3 : Ieee.double.infRung = 9218868437227405312 := by decide
  have h4 : Ieee.double.leastPlace = -1074 := by decide
  have h6 : Ieee.double.fractionBits = 52 := by decide
  have hp : 0 < 2 ^ a := Nat.two_pow_pos _
  have hm0 : M ≠ 0 := by omega
  have hl : M.log2 = 52 := by
    have a1 : M.log2 < 53 := (Nat.log2_lt hm0).2 (by omega)
    have a2 : 52 ≤ M.log2 := (Nat.le_log2 hm0).2 (by omega)
    omega
  unfold Ieee.Format.nearest
  rw [if_neg (Nat.mul_ne_zero hm0 (by omega)), log_mul M a hm0, hl, h2, h3, h4, h6]
  dsimp only
  have elast : max ((U : Int) - 1074 - a + ((52 + a : Nat) : Int) - ((52 : Nat) : Int)) (-1074) = (U : Int) - 1074 := by omega
  rw [elast, show ((U : Int) - 1074 - (-1074)).toNat = U by omega, show ((U : Int) - 1074 - a - ((U : Int) - 1074)).toNat = 0 by omega, show ((U : Int) - 1074 - ((U : Int) - 1074 - a)).toNat = a by omega, cut_even, Nat.shiftLeft_eq, Nat.pow_zero, Nat.mul_one]
  have hk : rhe (M * 2 ^ a) (2 ^ a) = M := by
    have e := rhe_mul M 1 (2 ^ a) hp
    rw [Nat.one_mul, rhe_one] at e
    exact e
  rw [hk, Nat.min_eq_left (by omega)]
/-- One times it. -/
theorem one_mul_norm {d : Nat} (h : Nrm d) : Ieee.double.mul 4607182418800017408 d = some d := by
  obtain ⟨m0, m1, hp, hm⟩ := h.mag
  have h1 : Ieee.double.read 4607182418800017408 = .number false 4503599627370496 (-52) := by decide
  unfold Ieee.Format.mul
  rw [h1, h.read]
  show some (Ieee.double.nearest (false ^^ signN d) (4503599627370496 * magN d) (-52 + ((upN d : Int) - 1074))) = _
  have hh := h.p1
  rw [Bool.false_xor, Nat.mul_comm, show (4503599627370496 : Nat) = 2 ^ 52 by decide, show -52 + ((upN d : Int) - 1074) = (upN d : Int) - 1074 - ((52 : Nat) : Int) by omega, nearest_norm _ _ _ _ m0 m1 (by omega)]
  congr 1
  have hs := h.split
  unfold Ieee.Format.word
  have e1 : Ieee.double.signWeight = 9223372036854775808 := by decide
  rw [e1]
  generalize signN d = s at *
  cases s
  · simp at hs ⊢; omega
  · simp at hs ⊢; omega
theorem nrm_order_zero {d : Nat} (h : Nrm d) : (Ieee.double.order d 0 == some .eq) = false := by
  have h0 : Ieee.double.read 0 = .number false 0 (((0 : Nat) : Int) - 1074) := by decide
  unfold Ieee.Format.order
  rw [h.read, h0, order_num]
  obtain ⟨m0, _⟩ := h.mag
  have hp : 0 < magN d * 2 ^ upN d := Nat.mul_pos (by omega) (Nat.two_pow_pos _)
  generalize magN d * 2 ^ upN d = y at hp
  rw [Nat.zero_mul]
  unfold svI
  cases signN d
  · simp only [Bool.false_eq_true, if_false]
    rw [compare_gt (by omega)]; rfl
  · simp only [if_true]
    rw [compare_lt (by simp; omega)]; rfl
/-- Without its sign. -/
theorem Nrm.abs {d : Nat} (h : Nrm d) : Nrm (d % 9223372036854775808) ∧ signN (d % 9223372036854775808) = false := by
  have e : powerN (d % 9223372036854775808) = powerN d := by unfold powerN; omega
  refine ⟨⟨by have := h.lt; omega, by rw [e]; exact h.p0, by rw [e]; exact h.p1⟩, ?_⟩
  unfold signN
  rw [Nat.div_eq_of_lt (Nat.mod_lt _ (by decide))]; rfl
theorem abs_order_max {d : Nat} (h : Nrm d) (hs : signN d = false) : (Ieee.double.order d 9218868437227405311 == some .gt) = false := by
  have h0 : Ieee.double.read 9218868437227405311 = .number false 9007199254740991 (((2045 : Nat) : Int) - 1074) := by decide
  unfold Ieee.Format.order
  rw [h.read, h0, hs, order_num]
  obtain ⟨m0, m1, hp, _⟩ := h.mag
  have hh := h.p1
  have key : ∀ k, upN d ≤ k → magN d * 2 ^ upN d ≤ 9007199254740991 * 2 ^ k := fun k hk => Nat.mul_le_mul (by omega) (Nat.pow_le_pow_right (by decide) hk)
  have k1 := key _ (show upN d ≤ 2045 by omega)
  unfold svI
  simp only [Bool.false_eq_true, if_false]
  rcases le_of (show ((magN d * 2 ^ upN d : Nat) : Int) ≤ ((9007199254740991 * 2 ^ 2045 : Nat) : Int) by exact_mod_cast k1) with e | e <;> rw [e] <;> rfl
theorem abs_order_min {d : Nat} (h : Nrm d) (hs : signN d = false) : (Ieee.double.order d 4503599627370496 == some .lt) = false := by
  have h0 : Ieee.double.read 4503599627370496 = .number false 4503599627370496 (((0 : Nat) : Int) - 1074) := by decide
  unfold Ieee.Format.order
  rw [h.read, h0, hs, order_num]
  obtain ⟨m0, m1, hp, _⟩ := h.mag
  have k1 : 4503599627370496 * 2 ^ 0 ≤ magN d * 2 ^ upN d := Nat.mul_le_mul m0 (Nat.pow_le_pow_right (by decide) (Nat.zero_le _))
  unfold svI
  simp only [Bool.false_eq_true, if_false]
  rcases ge_of (show ((4503599627370496 * 2 ^ 0 : Nat) : Int) ≤ ((magN d * 2 ^ upN d : Nat) : Int) by exact_mod_cast k1) with e | e <;> rw [e] <;> rfl
theorem low_mask {x : Nat} (h : x < 18446744073709551616) : bits .andNot .u64 (x : Int) 9223372036854775808 = ((x % 9223372036854775808 : Nat) : Int) := by
  have := u64_andNot_nat x 9223372036854775808 h (by decide)
  rw [show ((9223372036854775808 : Nat) : Int) = 9223372036854775808 from rfl] at this
  rw [this]
  exact congrArg Int.ofNat (Nat.and_two_pow_sub_one_eq_mod x 63)
theorem Abs_calls (d : Nat) (w : World) (h : d < 18446744073709551616) :
    Calls Try.prog 83 #[.float .f64 d] w fun e w' => e = .returned (.float .f64 (d % 9223372036854775808)) ∧ w' = w := by
  have hb := fun W => tobits d W
  have hm := low_mask h
  have hf : ∀ W, (callFunc 80 #[.int .u64 (bits .andNot .u64 (d : Int) 9223372036854775808)]).run Try.prog W = .ok (.value (.float .f64 (d % 9223372036854775808))) W := fun W => by rw [hm, frombits]; rfl
  clear hm
  go_enter Try.func83, Try.ntmps83
  go_wp2
  go_ret
  exact ⟨rfl, rfl⟩
theorem IsNaN_calls (d : Nat) (w : World) (h : (Ieee.double.read d).isNaN = false) :
    Calls Try.prog 76 #[.float .f64 d] w fun e w' => e = .returned (.bool false) ∧ w' = w := by
  have hneq : (FloatKind.f64.format.order d d != some Ordering.eq) = false := by
    show (Ieee.double.order d d != some .eq) = false
    rw [order_self, h]; rfl
  go_enter Try.func76, Try.ntmps76
  go_wp2
  go_ret
  exact ⟨rfl, rfl⟩
theorem IsInf_calls (d : Nat) (w : World) (h : Nrm d) :
    Calls Try.prog 75 #[.float .f64 d, .int .i64 0] w fun e w' => e = .returned (.bool false) ∧ w' = w := by
  obtain ⟨h1, h2⟩ := h.abs
  have hgt : (FloatKind.f64.format.order (d % 9223372036854775808) 9218868437227405311 == some Ordering.gt) = false := abs_order_max h1 h2
  go_enter Try.func75, Try.ntmps75
  go_wp2_with fail
  refine (Abs_calls d _ h.lt).mono ?_
  rintro e w ⟨rfl, rfl⟩
  clear h h1 h2
  go_wp2_with fail
  go_ret
  exact ⟨rfl, rfl⟩
theorem normalize_calls (d : Nat) (w : World) (h : Nrm d) :
    Calls Try.prog 77 #[.float .f64 d] w fun e w' => e = .returned (.tuple #[.float .f64 d, .int .i64 0]) ∧ w' = w := by
  obtain ⟨h1, h2⟩ := h.abs
  have hlt : (FloatKind.f64.format.order (d % 9223372036854775808) 4503599627370496 == some Ordering.lt) = false := abs_order_min h1 h2
  go_enter Try.func77, Try.ntmps77
  go_wp2_with fail
  refine (Abs_calls d _ h.lt).mono ?_
  rintro e w ⟨rfl, rfl⟩
  clear h h1 h2
  go_wp2_with fail
  go_ret2
  exact ⟨rfl, rfl⟩
theorem i64_and2047 (n : Int) : bits .and .i64 n 2047 = n % 2048 := by
  have h127 : (BitVec.ofInt 64 2047).toNat = 2 ^ 11 - 1 := by decide
  have key : (BitVec.ofInt 64 n &&& BitVec.ofInt 64 2047).toNat = (n % ((2 ^ 64 : Nat) : Int)).toNat % 2 ^ 11 := by
    rw [BitVec.toNat_and, BitVec.toNat_ofInt, h127, Nat.and_two_pow_sub_one_eq_mod]
  show IntKind.i64.wrap ((BitVec.ofInt 64 n &&& BitVec.ofInt 64 2047).toNat : Nat) = n % 2048
  rw [key, IntKind.wrap_i64]
  omega
theorem clear_power {d : Nat} (h : d < 18446744073709551616) : bits .andNot .u64 (d : Int) 9218868437227405312 = (((signN d).toNat * 9223372036854775808 + partN d : Nat) : Int) := by
  have h1 := u64_andNot_nat d 9218868437227405312 h (by decide)
  rw [show ((9218868437227405312 : Nat) : Int) = 9218868437227405312 from rfl] at h1
  rw [h1]
  have hm : (18446744073709551615 - 9218868437227405312 : Nat) = 2 ^ 63 ||| (2 ^ 52 - 1) := by decide
  rw [hm, Nat.and_or_distrib_left, nat_bit, Nat.and_two_pow_sub_one_eq_mod]
  rw [nat_join 63 _ _ (by omega) (by have : d % 2 ^ 52 < 2 ^ 52 := Nat.mod_lt _ (by decide)
                                     omega)]
  have hs : (signN d).toNat = d / 2 ^ 63 % 2 := by
    unfold signN
    have : d / 9223372036854775808 % 2 = 0 ∨ d / 9223372036854775808 % 2 = 1 := by omega
    rw [show (2 : Nat) ^ 63 = 9223372036854775808 by decide]
    rcases this with e | e <;> rw [e] <;> rfl
  rw [hs]; rfl
/-- The power is set anew. -/
theorem set_power {s : Bool} {q p : Nat} (hq : q < 4503599627370496) (hp : p < 2047) :
    bits .or .u64 ((s.toNat * 9223372036854775808 + q : Nat) : Int) ((p * 4503599627370496 : Nat) : Int) = ((s.toNat * 9223372036854775808 + p * 4503599627370496 + q : Nat) : Int) := by
  have hs : s.toNat ≤ 1 := by cases s <;> decide
  rw [u64_or_nat _ _ (by omega) (by omega)]
  have e1 : s.toNat * 9223372036854775808 + q = s.toNat * 9223372036854775808 ||| q := (nat_join 63 _ _ (by omega) (by omega)).symm
  have e2 : q ||| p * 4503599627370496 = p * 4503599627370496 + q := by rw [Nat.or_comm, nat_join 52 _ _ (by omega) (by omega)]
  have e3 : s.toNat * 9223372036854775808 ||| (p * 4503599627370496 + q) = s.toNat * 9223372036854775808 + (p * 4503599627370496 + q) := nat_join 63 _ _ (by omega) (by omega)
  rw [e1, Nat.or_assoc, e2, e3]
  exact congrArg Int.ofNat (by omega)
/-- Less by k powers of two. -/
theorem Nrm.down {d : Nat} (h : Nrm d) (k : Nat) (hk : 1000 + k ≤ powerN d) : Nrm (d - k * 4503599627370496) ∧ powerN (d - k * 4503599627370496) = powerN d - k ∧ partN (d - k * 4503599627370496) = partN d ∧ signN (d - k * 4503599627370496) = signN d := by
  have hs := h.split
  have h1 := h.lt
  have h2 := h.p1
  have hb : (signN d).toNat ≤ 1 := by cases signN d <;> decide
  have hq : partN d < 4503599627370496 := by unfold partN; omega
  have e1 : powerN (d - k * 4503599627370496) = powerN d - k := by unfold powerN at *; omega
  refine ⟨⟨by omega, by rw [e1]; omega, by rw [e1]; omega⟩, e1, by unfold partN; omega, ?_⟩
  have e2 : (d - k * 4503599627370496) / 9223372036854775808 = d / 9223372036854775808 := by unfold powerN at *; omega
  unfold signN
  rw [e2]
set_option maxRecDepth 20000 in
theorem ldexp_calls (d k : Nat) (w : World) (h : Nrm d) (hk : k ≤ 15) (hp : 1020 ≤ powerN d) (hp2 : powerN d ≤ 1040) :
    Calls Try.prog 72 #[.float .f64 d, .int .i64 (-(k : Int))] w fun e w' => e = .returned (.float .f64 (d - k * 4503599627370496)) ∧ w' = w := by
  have hb := fun W => tobits d W
  have heq : (FloatKind.f64.format.order d 0 == some Ordering.eq) = false := nrm_order_zero h
  obtain ⟨D, hD⟩ : ∃ D, D = d - k * 4503599627370496 := ⟨_, rfl⟩
  rw [← hD]
  replace hD := Lib.hid hD
  go_enter Try.func72, Try.ntmps72
  go_wp2_with fail
  refine (IsInf_calls d _ h).mono ?_
  rintro e w ⟨rfl, rfl⟩
  go_wp2_with fail
  refine (IsNaN_calls d _ (by rw [h.read]; rfl)).mono ?_
  rintro e w ⟨rfl, rfl⟩
  go_wp2_with fail
  refine (normalize_calls d _ h).mono ?_
  rintro e w ⟨rfl, rfl⟩
  go_upto_region 9 with fail
  have hlt := h.lt
  have hv : wrap64 (-(k : Int) + wrap64 (bits .and .i64 (wrap64 ((d : Int) / 4503599627370496)) 2047 - 1023)) = (powerN d : Int) - 1023 - k := by
    rw [i64_and2047]
    unfold wrap64 powerN
    unfold powerN at hp hp2
    omega
  rw [hv]
  obtain ⟨E, hE⟩ : ∃ E, E = (powerN d : Int) - 1023 - k := ⟨_, rfl⟩
  have E0 : -100 ≤ E := by omega
  have E1 : E ≤ 100 := by omega
  rw [← hE]
  clear hv
  replace hE := Lib.hid hE
  go_upto_region 21 with fail
  have hw : bits .or .u64 (bits .andNot .u64 (d : Int) 9218868437227405312) ((E + 1023) * 4503599627370496) = ((d - k * 4503599627370496 : Nat) : Int) := by
    obtain ⟨n1, n2, n3, n4⟩ := h.down k (by omega)
    have hs := n1.split
    rw [n2, n3, n4] at hs
    have hq : partN d < 4503599627370496 := by unfold partN; omega
    have he : E + 1023 = ((powerN d - k : Nat) : Int) := by rw [hE.out]; omega
    have hm : ((powerN d - k : Nat) : Int) * 4503599627370496 = (((powerN d - k) * 4503599627370496 : Nat) : Int) := (Int.natCast_mul _ _).symm
    rw [clear_power hlt, he, hm, set_power hq (by omega), ← hs]
  rw [hw, ← hD.out]
  obtain ⟨n1, _⟩ := h.down k (by omega)
  rw [← hD.out] at n1
  have hf : ∀ W, (callFunc 80 #[.int .u64 (D : Int)]).run Try.prog W = .ok (.value (.float .f64 D)) W := fun W => frombits _ W
  have hmul : ∀ W, (binOp .mul 82 (.float .f64 4607182418800017408) (.float .f64 D)).run Try.prog W = .ok (.float .f64 D) W := fun W => run_float_arith W .mul _ .f64 _ _ _ (one_mul_norm n1)
  clear hw heq hb n1
  go_wp2_with fail
  go_ret
  exact ⟨rfl, rfl⟩
theorem Ldexp_calls (d k : Nat) (w : World) (h : Nrm d) (hk : k ≤ 15) (hp : 1020 ≤ powerN d) (hp2 : powerN d ≤ 1040) :
    Calls Try.prog 58 #[.float .f64 d, .int .i64 (-(k : Int))] w fun e w' => e = .returned (.float .f64 (d - k * 4503599627370496)) ∧ w' = w := by
  go_enter Try.func58, Try.ntmps58
  go_wp2_with fail
  refine (ldexp_calls d k _ h hk hp hp2).mono ?_
  rintro e w ⟨rfl, rfl⟩
  go_wp2_with fail
  go_ret
  exact ⟨rfl, rfl⟩
theorem Ldexp_zero (x : Int) (w : World) :
    Calls Try.prog 58 #[.float .f64 0, .int .i64 x] w fun e w' => e = .returned (.float .f64 0) ∧ w' = w := by
  have heq : (FloatKind.f64.format.order 0 0 == some Ordering.eq) = true := by decide
  have key : Calls Try.prog 72 #[.float .f64 0, .int .i64 x] w fun e w' => e = .returned (.float .f64 0) ∧ w' = w := by
    go_enter Try.func72, Try.ntmps72
    go_wp2_with fail
    go_ret
    exact ⟨rfl, rfl⟩
  go_enter Try.func58, Try.ntmps58
  go_wp2_with fail
  refine key.mono ?_
  rintro e w ⟨rfl, rfl⟩
  go_wp2_with fail
  go_ret
  exact ⟨rfl, rfl⟩
/-- The bits of a whole number times 2^-k. -/
def ldx (n : Int) (k : Nat) : Nat := if n = 0 then 0 else FloatKind.f64.nearest n - k * 4503599627370496
theorem near_nrm (n : Int) (h0 : -32768 ≤ n) (h1 : n ≤ 32767) (hn : n ≠ 0) :
    Nrm (FloatKind.f64.nearest n) ∧ 1020 ≤ powerN (FloatKind.f64.nearest n) ∧ powerN (FloatKind.f64.nearest n) ≤ 1040 ∧ signN (FloatKind.f64.nearest n) = decide (n < 0) ∧ magN (FloatKind.f64.nearest n) * 2 ^ upN (FloatKind.f64.nearest n) = n.natAbs * unit1 := by
  have hm : n.natAbs < 9007199254740992 := by omega
  have h5 : FloatKind.f64.nearest n = Ieee.double.write (.number (decide (n < 0)) n.natAbs 0) := rfl
  have h6 := read_write (decide (n < 0)) n.natAbs 0 unitExp hm
  have hE := unitExp_is
  rw [Nat.pow_zero, Nat.mul_one, show ((unitExp : Nat) : Int) - 1074 - ((0 : Nat) : Int) = 0 by omega, ← h5] at h6
  generalize FloatKind.f64.nearest n = d at *
  have hlt : d < 18446744073709551616 := by
    have := Ieee.Format.write_lt Ieee.double (.number (decide (n < 0)) n.natAbs 0)
    rw [← h5] at this
    exact this
  have hu : n.natAbs * 2 ^ unitExp = n.natAbs * unit1 := rfl
  rw [hu] at h6
  rcases h6 with ⟨_, m', e', g1, _, g3⟩ | ⟨g1, _⟩
  · have hp : powerN d ≠ 2047 := by
      intro hp
      rw [read_odd d hp] at g1
      split at g1 <;> cases g1
    rw [read_num d hp] at g1
    injection g1 with e1 e2 e3
    have e3' : upN d = e' := by omega
    subst e2
    subst e3'
    have hmag := magN_lt d
    -- the power lies between
    have hlo : 1021 < upN d := by
      false_or_by_contra
      have k1 : magN d * 2 ^ upN d < 9007199254740992 * 2 ^ upN d := Nat.mul_lt_mul_of_pos_right hmag (Nat.two_pow_pos _)
      have k2 : 9007199254740992 * 2 ^ upN d ≤ unit1 := by
        unfold unit1
        rw [show (9007199254740992 : Nat) = 2 ^ 53 by decide, ← Nat.pow_add]
        exact Nat.pow_le_pow_right (by decide) (by omega)
      have k3 : 1 * unit1 ≤ n.natAbs * unit1 := Nat.mul_le_mul_right _ (by omega)
      omega
    have hpw : powerN d ≠ 0 := by intro h; unfold upN at hlo; omega
    have hmg : 4503599627370496 ≤ magN d := by unfold magN; rw [if_neg hpw]; omega
    have hhi : upN d < 1038 := by
      false_or_by_contra
      have k1 : 4503599627370496 * 2 ^ upN d ≤ magN d * 2 ^ upN d := Nat.mul_le_mul_right _ hmg
      have k2 : 65536 * unit1 ≤ 4503599627370496 * 2 ^ upN d := by
        unfold unit1
        rw [show (4503599627370496 : Nat) = 2 ^ 52 by decide, show (65536 : Nat) = 2 ^ 16 by decide, ← Nat.pow_add, ← Nat.pow_add]
        exact Nat.pow_le_pow_right (by decide) (by omega)
      have k3 : n.natAbs * unit1 < 65536 * unit1 := Nat.mul_lt_mul_of_pos_right (by omega) unit1_pos
      omega
    have hup : powerN d = upN d + 1 := by unfold upN; omega
    exact ⟨⟨hlt, by omega, by omega⟩, by omega, by omega, e1, g3⟩
  · exfalso
    have k3 : n.natAbs * unit1 < 65536 * unit1 := Nat.mul_lt_mul_of_pos_right (by omega) unit1_pos
    have hF := tooExp_is
    have k2 : 65536 * unit1 ≤ tooBig := by
      unfold unit1 tooBig
      rw [show (65536 : Nat) = 2 ^ 16 by decide, ← Nat.pow_add]
      exact Nat.pow_le_pow_right (by decide) (by omega)
    omega
theorem ldx_lt (n : Int) (k : Nat) (h0 : -32768 ≤ n) (h1 : n ≤ 32767) : ldx n k < 18446744073709551616 := by
  unfold ldx
  split
  · decide
  · rename_i hn
    have := (near_nrm n h0 h1 hn).1.lt
    omega
/-- Fixed of it is the number. -/
theorem fix_ldx (n : Int) (k : Nat) (h0 : -32768 ≤ n) (h1 : n ≤ 32767) (hk : k ≤ 15) : fix (ldx n k : Int) k = (n, 0) := by
  unfold fix
  rw [if_neg (by omega), show ((ldx n k : Nat) : Int).toNat = ldx n k from rfl, show ((k : Nat) : Int).toNat = k from rfl]
  by_cases hn : n = 0
  · subst hn
    have hw : wholeN 0 k = 0 := by
      unfold wholeN
      have : magN 0 = 0 := by decide
      rw [this, Nat.zero_mul]
      exact rhe_small _ _ unit1_pos
    have hs : signN 0 = false := by decide
    have hp : powerN 0 ≠ 2047 := by decide
    unfold ldx fixN
    rw [if_pos rfl, if_neg hp, hs, hw]; rfl
  · unfold ldx
    rw [if_neg hn]
    obtain ⟨n1, p0, p1, hs, hv⟩ := near_nrm n h0 h1 hn
    obtain ⟨d1, d2, d3, d4⟩ := n1.down k (by omega)
    obtain ⟨_, _, m3, m4⟩ := n1.mag
    obtain ⟨_, _, r3, r4⟩ := d1.mag
    have hw : wholeN (FloatKind.f64.nearest n - k * 4503599627370496) k = n.natAbs := by
      unfold wholeN
      rw [show upN (FloatKind.f64.nearest n - k * 4503599627370496) + k = upN (FloatKind.f64.nearest n) by omega, show magN (FloatKind.f64.nearest n - k * 4503599627370496) = magN (FloatKind.f64.nearest n) by omega, hv]
      have e := rhe_mul n.natAbs 1 unit1 unit1_pos
      rw [Nat.one_mul, rhe_one] at e
      exact e
    unfold fixN
    rw [if_neg (by omega), d4, hs, hw]
    by_cases hneg : n < 0
    · rw [decide_eq_true hneg, if_pos rfl, if_neg (by omega), show -((n.natAbs : Nat) : Int) = n by omega]
    · rw [decide_eq_false hneg, if_neg (by decide), if_neg (by omega), show ((n.natAbs : Nat) : Int) = n by omega]
end Go.Proofs.Ytjdablkdndmcgaa
