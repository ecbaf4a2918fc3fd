/- Plain mathematics of integer square roots: no program. -/
import Derived.Below
import Derived.Lib.BitFns
import Derived.RowKit
import Derived.Laws.Bits64
namespace Go.Proofs.Ytaiibjbhblpbpaa
set_option linter.unusedVariables false
set_option linter.unusedSimpArgs false

def isq : Nat → Nat
  | 0 => 0
  | n + 1 => if (isq n + 1) * (isq n + 1) ≤ n + 1 then isq n + 1 else isq n
theorem isq_spec (n : Nat) : isq n * isq n ≤ n ∧ n < (isq n + 1) * (isq n + 1) := by
  induction n with
  | zero => exact ⟨by decide, by decide⟩
  | succ n ih =>
    obtain ⟨h1, h2⟩ := ih
    unfold isq
    split
    · rename_i h
      refine ⟨h, ?_⟩
      have : (isq n + 1 + 1) * (isq n + 1 + 1) = (isq n + 1) * (isq n + 1) + 2 * (isq n + 1) + 1 := by
        rw [Nat.add_mul, Nat.mul_add, Nat.mul_one, Nat.one_mul]; omega
      omega
    · rename_i h
      exact ⟨by omega, by omega⟩
theorem sq_lt {a b : Nat} (h : a * a < b * b) : a < b := by
  rcases Nat.lt_or_ge a b with h' | h'
  · exact h'
  · exact absurd (Nat.mul_le_mul h' h') (by omega)
theorem isq_eq {n r : Nat} (h1 : r * r ≤ n) (h2 : n < (r + 1) * (r + 1)) : isq n = r := by
  obtain ⟨a, b⟩ := isq_spec n
  have x : isq n < r + 1 := sq_lt (by omega)
  have y : r < isq n + 1 := sq_lt (by omega)
  omega
/-- The root below, on Int. -/
def flr (n : Int) : Int := (isq n.toNat : Nat)
/-- The root above. -/
def cel (n : Int) : Int := if flr n * flr n = n then flr n else flr n + 1
theorem flr_spec {n : Int} (h : 0 ≤ n) : 0 ≤ flr n ∧ flr n * flr n ≤ n ∧ n < (flr n + 1) * (flr n + 1) := by
  obtain ⟨m, rfl⟩ := Int.eq_ofNat_of_zero_le h
  obtain ⟨a, b⟩ := isq_spec m
  unfold flr
  rw [Int.toNat_natCast]
  exact ⟨by omega, by exact_mod_cast a, by exact_mod_cast b⟩
theorem flr_eq {n r : Int} (h0 : 0 ≤ r) (h1 : r * r ≤ n) (h2 : n < (r + 1) * (r + 1)) : flr n = r := by
  obtain ⟨s, rfl⟩ := Int.eq_ofNat_of_zero_le h0
  have hn : 0 ≤ n := Int.le_trans (Int.mul_nonneg h0 h0) h1
  obtain ⟨m, rfl⟩ := Int.eq_ofNat_of_zero_le hn
  unfold flr
  rw [Int.toNat_natCast, isq_eq (r := s) (by exact_mod_cast h1) (by exact_mod_cast h2)]
theorem sq_ltI {a b : Int} (hb : 0 ≤ b) (h : a * a < b * b) : a < b := by
  rcases Int.lt_or_le a b with h' | h'
  · exact h'
  · exact absurd (Int.mul_le_mul h' h' hb (by omega)) (by omega)
theorem sq_leI {a b : Int} (hb : 0 ≤ b) (h : a * a ≤ b * b) : a ≤ b := by
  rcases Int.lt_or_le b a with h' | h'
  · have := Int.mul_pos (show (0:Int) < a - b by omega) (show 0 < a + b by omega)
    have e : (a - b) * (a + b) = a * a - b * b := by grind
    omega
  · exact h'
/-- One step of Newton's, from above. -/
theorem newton {n r : Int} (h0 : 0 ≤ n) (hr : 1 ≤ r) (hs : flr n ≤ r) (hgt : n / r < r) :
    flr n ≤ (r + n / r) / 2 ∧ (r + n / r) / 2 < r := by
  obtain ⟨a, b, c⟩ := flr_spec h0
  refine ⟨?_, by omega⟩
  -- (s + d) : r = s + d; s*s <= n; need 2 s <= r + n / r
  have h1 : n < r * (n / r + 1) := by
    have := Int.mul_ediv_add_emod n r
    have h2 := Int.emod_lt_of_pos n (show 0 < r by omega)
    rw [Int.mul_add, Int.mul_one]; omega
  have h3 : 2 * flr n < r + n / r + 1 := by
    rcases Int.lt_or_le (2 * flr n) (r + n / r + 1) with h | h
    · exact h
    · exfalso
      -- n / r + 1 <= 2 s - r
      have h4 : n / r + 1 ≤ 2 * flr n - r := by omega
      have h5 : r * (n / r + 1) ≤ r * (2 * flr n - r) := Int.mul_le_mul_of_nonneg_left h4 (by omega)
      have h6 : r * (2 * flr n - r) = flr n * flr n - (r - flr n) * (r - flr n) := by grind
      have h7 : 0 ≤ (r - flr n) * (r - flr n) := Int.mul_nonneg (by omega) (by omega)
      omega
  omega
theorem flr_of_le {n r : Int} (h0 : 0 ≤ n) (hr : 1 ≤ r) (hs : flr n ≤ r) (hle : r ≤ n / r) : r = flr n := by
  obtain ⟨a, b, c⟩ := flr_spec h0
  have h1 : r * r ≤ n := by
    have h2 := Int.mul_le_mul_of_nonneg_left hle (show 0 ≤ r by omega)
    have := Int.mul_ediv_add_emod n r
    have h3 := Int.emod_nonneg n (show r ≠ 0 by omega)
    omega
  have : r < flr n + 1 := sq_ltI (by omega) (by omega)
  omega
theorem bitLenAux_spec : ∀ (f x : Nat), x < 2 ^ f → x < 2 ^ Lib.bitLenAux f x ∧ Lib.bitLenAux f x ≤ f
  | 0, x, h => by simp [Lib.bitLenAux] at h ⊢; omega
  | f + 1, x, h => by
    unfold Lib.bitLenAux
    split
    · rename_i h0; subst h0; exact ⟨by simp, by omega⟩
    · rename_i h0
      obtain ⟨a, b⟩ := bitLenAux_spec f (x / 2) (by rw [Nat.pow_succ] at h; omega)
      refine ⟨?_, by omega⟩
      rw [Nat.add_comm, Nat.pow_succ]
      omega
theorem bitLenI_spec {n : Int} (h0 : 0 ≤ n) (h1 : n ≤ 18446744073709551615) : n < 2 ^ Lib.bitLen n.toNat ∧ Lib.bitLen n.toNat ≤ 64 := by
  obtain ⟨m, rfl⟩ := Int.eq_ofNat_of_zero_le h0
  rw [Int.toNat_natCast]
  obtain ⟨a, b⟩ := bitLenAux_spec 64 m (by omega)
  exact ⟨by exact_mod_cast a, b⟩
theorem u64_id {x : Int} (h0 : 0 ≤ x) (h1 : x ≤ 18446744073709551615) : IntKind.u64.wrap x = x := by
  rw [IntKind.wrap_u64]; omega
theorem two_pow_le {k : Nat} (h : k ≤ 32) : (2 : Int) ^ k ≤ 4294967296 := by
  have h2 : (2 : Nat) ^ k ≤ 2 ^ 32 := Nat.pow_le_pow_right (by decide) h
  have h3 : ((2 ^ k : Nat) : Int) ≤ ((2 ^ 32 : Nat) : Int) := Int.ofNat_le.mpr h2
  rw [Int.natCast_pow] at h3; exact h3
theorem two_pow_pos (k : Nat) : (1 : Int) ≤ 2 ^ k := by
  have h2 : 1 ≤ (2 : Nat) ^ k := Nat.one_le_two_pow
  have h3 : ((1 : Nat) : Int) ≤ ((2 ^ k : Nat) : Int) := Int.ofNat_le.mpr h2
  rw [Int.natCast_pow] at h3; exact h3
theorem start_ge {n L : Int} (h0 : 0 ≤ n) (hL0 : 0 ≤ L) (hL1 : L ≤ 64) (h : n < 2 ^ L.toNat) :
    flr n ≤ IntKind.u64.wrap (2 ^ ((L + 1) / 2).toNat) ∧ 1 ≤ IntKind.u64.wrap (2 ^ ((L + 1) / 2).toNat) := by
  have hk : ((L + 1) / 2).toNat ≤ 32 := by omega
  have a := two_pow_le hk
  have b := two_pow_pos ((L + 1) / 2).toNat
  rw [u64_id (by omega) (by omega)]
  refine ⟨?_, b⟩
  obtain ⟨c, d, e⟩ := flr_spec h0
  refine Int.le_of_lt (sq_ltI (by omega) ?_)
  rw [← Int.pow_add]
  have h3 : (2 : Nat) ^ L.toNat ≤ 2 ^ (((L + 1) / 2).toNat + ((L + 1) / 2).toNat) := Nat.pow_le_pow_right (by decide) (by omega)
  have h4 : (2 : Int) ^ L.toNat ≤ 2 ^ (((L + 1) / 2).toNat + ((L + 1) / 2).toNat) := by exact_mod_cast h3
  omega
theorem flr_lt {n : Int} (h0 : 0 ≤ n) (h1 : n ≤ 18446744073709551615) : flr n ≤ 4294967295 := by
  obtain ⟨a, b, c⟩ := flr_spec h0
  have : flr n < 4294967296 := sq_ltI (by omega) (by omega)
  omega
theorem flr_pos {n : Int} (h : 1 ≤ n) : 1 ≤ flr n := by
  obtain ⟨a, b, c⟩ := flr_spec (show 0 ≤ n by omega)
  rcases Int.lt_or_le (flr n) 1 with h' | h'
  · have : flr n = 0 := by omega
    rw [this] at c; omega
  · exact h'
/-- The quotient below, and the error. -/
def divI (a b : Int) : Int × Int := if b < 1 then (0, 2) else (a / b, 0)
def meanI (s n : Int) : Int × Int :=
  if n < 1 then (0, 2) else if n > 1152921504606846976 then (0, 11) else if s < -1152921504606846976 then (0, 11) else if s > 1152921504606846976 then (0, 11)
  else ((2 * s + n) / (2 * n), 0)
def mulU (a b : Int) : Int × Int := if a * b > 18446744073709551615 then (0, 11) else (a * b, 0)
def sumU (a b : Int) : Int × Int := if a + b > 18446744073709551615 then (0, 11) else (a + b, 0)
theorem tdiv_floor {a b : Int} (hb : 1 ≤ b) (h : a.tmod b < 0) : a.tdiv b - 1 = a / b := by
  have h1 := Int.mul_tdiv_add_tmod a b
  have h2 : -b < a.tmod b := by
    have h5 := Int.tmod_lt_of_pos (-a) (show 0 < b by omega)
    rw [Int.neg_tmod] at h5
    omega
  have h3 : a = b * (a.tdiv b - 1) + (a.tmod b + b) := by rw [Int.mul_sub]; omega
  have := Int.ediv_emod_unique (a := a) (b := b) (r := a.tmod b + b) (q := a.tdiv b - 1) (by omega)
  exact (this.2 ⟨by omega, by omega, by omega⟩).1.symm
theorem tdiv_floor0 {a b : Int} (hb : 1 ≤ b) (h : ¬ a.tmod b < 0) : a.tdiv b = a / b := by
  have h1 := Int.mul_tdiv_add_tmod a b
  have h2 : a.tmod b < b := Int.tmod_lt_of_pos a (by omega)
  have := Int.ediv_emod_unique (a := a) (b := b) (r := a.tmod b) (q := a.tdiv b) (by omega)
  exact (this.2 ⟨by omega, by omega, by omega⟩).1.symm
theorem ediv_bd {a b : Int} (hb : 1 ≤ b) (h0 : -9223372036854775808 ≤ a) (h1 : a ≤ 9223372036854775807) : -9223372036854775808 ≤ a / b ∧ a / b ≤ 9223372036854775807 := by
  constructor
  · rw [Int.le_ediv_iff_mul_le (by omega)]
    have := Int.mul_le_mul_of_nonneg_left hb (show (0:Int) ≤ 9223372036854775808 by decide)
    omega
  · have : a / b < 9223372036854775808 := by
      rw [Int.ediv_lt_iff_lt_mul (by omega)]
      omega
    omega
end Go.Proofs.Ytaiibjbhblpbpaa
