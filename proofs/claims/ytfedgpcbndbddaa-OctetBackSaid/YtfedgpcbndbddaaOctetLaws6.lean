import Derived.Test.YtfedgpcbndbddaaRefReader
import Derived.Test.YtfedgpcbndbddaaOctetLaws4
import Derived.Test.YtfedgpcbndbddaaOctetRows
namespace Go.Proofs.Ytfedgpcbndbddaa
set_option linter.unusedVariables false
set_option linter.unusedSimpArgs false
open Go.RowKit
/-! Numbers written one after the other, and read again. -/
theorem ofB_lowB (x : Int) (m : Nat) : ofB (lowB x m) = x % 2 ^ (8 * m) := by
  induction m generalizing x with
  | zero => simp [lowB, ofB]
  | succ m ih =>
    rw [lowB_cons]
    show x % 256 + 256 * ofB (lowB (x / 256) m) = _
    rw [ih, show 8 * (m + 1) = 8 + 8 * m by omega, Int.pow_add]
    have e : (2 : Int) ^ 8 = 256 := by decide
    rw [e]
    generalize (2 : Int) ^ (8 * m) = P
    rw [Int.emod_def x (256 * P), Int.emod_def (x / 256) P, ← Int.ediv_ediv_of_nonneg (show (0 : Int) ≤ 256 by decide), Int.mul_assoc 256 P]
    generalize P * (x / 256 / P) = t
    omega
/-- The number that is written. -/
def xAt (l : List Int) (i : Nat) : Int := l.getD i 0 % 18446744073709551616
/-- In how many bytes. -/
def mAt (z : List Int) (i : Nat) : Nat := (1 + z.getD i 0 % 8).toNat
theorem mAt_le (z : List Int) (i : Nat) : 1 ≤ mAt z i ∧ mAt z i ≤ 8 ∧ ((mAt z i : Nat) : Int) = 1 + z.getD i 0 % 8 := by unfold mAt; omega
def enc (l z : List Int) : Nat → List Int
  | 0 => []
  | i + 1 => enc l z i ++ lowB (xAt l i) (mAt z i)
def rest (l z : List Int) (i : Nat) : Nat → List Int
  | 0 => []
  | k + 1 => lowB (xAt l i) (mAt z i) ++ rest l z (i + 1) k
theorem enc_rest (l z : List Int) (k i : Nat) : enc l z i ++ rest l z i k = enc l z (i + k) := by
  induction k generalizing i with
  | zero => simp [rest]
  | succ k ih => rw [rest, ← List.append_assoc, show i + (k + 1) = i + 1 + k by omega, ← ih (i + 1)]; rfl
theorem enc_len (l z : List Int) (i : Nat) : (enc l z i).length ≤ 8 * i := by
  induction i with
  | zero => simp [enc]
  | succ i ih => rw [enc, List.length_append, lowB_length]; have := mAt_le z i; omega
theorem lowB_bytes (x : Int) (m : Nat) : Bytes (lowB x m) := fun y hy => by
  unfold lowB at hy
  obtain ⟨i, _, rfl⟩ := List.mem_map.1 hy
  omega
theorem rest_bytes (l z : List Int) (k i : Nat) : Bytes (rest l z i k) := by
  induction k generalizing i with
  | zero => intro y hy; simp [rest] at hy
  | succ k ih => intro y hy; rw [rest] at hy; rcases List.mem_append.1 hy with h | h; exact lowB_bytes _ _ y h; exact ih _ y h
theorem many8_m (z : List Int) (i : Nat) : many8 (1 + z.getD i 0 % 8) = mAt z i := by unfold many8 mAt; omega
theorem tk_rest (l z : List Int) (i k : Nat) : tk (rest l z i (k + 1)) 0 ((mAt z i : Nat) : Int) 8 = (lowB (xAt l i) (mAt z i), rest l z (i + 1) k, 0) := by
  have := mAt_le z i
  unfold tk
  rw [if_neg (by simp), if_neg (by omega), if_neg (by rw [rest, List.length_append, lowB_length]; omega), Int.toNat_natCast, rest]
  rw [List.take_left' (lowB_length _ _), List.drop_left' (lowB_length _ _)]
theorem take8_lowB (x : Int) {m : Nat} (h : m ≤ 8) : (lowB x m).take 8 = lowB x m := List.take_of_length_le (by rw [lowB_length]; exact h)
end Go.Proofs.Ytfedgpcbndbddaa
