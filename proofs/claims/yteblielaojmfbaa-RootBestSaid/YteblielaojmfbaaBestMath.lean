import Derived.Test.YteblielaojmfbaaRootMath
namespace Go.Proofs.Yteblielaojmfbaa
set_option linter.unusedVariables false
set_option linter.unusedSimpArgs false
theorem mean_ok (s n B : Int) (hn : 1 ≤ n) (hn2 : n ≤ 1152921504606846976) (h1 : -(n * B) ≤ s) (h2 : s ≤ n * B) (h3 : -1152921504606846976 ≤ s) (h4 : s ≤ 1152921504606846976) :
    (meanI s n).2 = 0 ∧ 2 * (s - n * (meanI s n).1) ≤ n ∧ -n ≤ 2 * (s - n * (meanI s n).1) ∧ -B ≤ (meanI s n).1 ∧ (meanI s n).1 ≤ B := by
  have e : meanI s n = ((2 * s + n) / (2 * n), 0) := by
    unfold meanI
    rw [if_neg (by omega), if_neg (by omega), if_neg (by omega), if_neg (by omega)]
  rw [e]
  have q1 := Int.mul_ediv_add_emod (2 * s + n) (2 * n)
  have q2 := Int.emod_nonneg (2 * s + n) (show 2 * n ≠ 0 by omega)
  have q3 := Int.emod_lt_of_pos (2 * s + n) (show 0 < 2 * n by omega)
  have p1 : -B * (2 * n) = -2 * (n * B) := by grind
  have p2 : (B + 1) * (2 * n) = 2 * (n * B) + 2 * n := by grind
  have b1 : -B ≤ (2 * s + n) / (2 * n) := Int.le_ediv_of_mul_le (by omega) (by omega)
  have b2 : (2 * s + n) / (2 * n) < B + 1 := Int.ediv_lt_of_lt_mul (by omega) (by omega)
  generalize (2 * s + n) / (2 * n) = m at *
  have q4 : 2 * n * m = 2 * (n * m) := by grind
  rw [q4] at q1
  refine ⟨rfl, ?_, ?_, b1, by omega⟩
  · show 2 * (s - n * m) ≤ n
    omega
  · show -n ≤ 2 * (s - n * m)
    omega
/-- Sums. -/
def sumI (l : List Int) : Int := l.foldl (· + ·) 0
def sqs (l : List Int) (k : Int) : Int := l.foldl (fun a v => a + (v - k) * (v - k)) 0
theorem foldl_add (l : List Int) (f : Int → Int) (a : Int) : l.foldl (fun a v => a + f v) a = a + l.foldl (fun a v => a + f v) 0 := by
  induction l generalizing a with
  | nil => simp
  | cons x l ih => simp only [List.foldl_cons]; rw [ih (a + f x), ih (0 + f x)]; omega
theorem sqs_cons (x : Int) (l : List Int) (k : Int) : sqs (x :: l) k = (x - k) * (x - k) + sqs l k := by
  unfold sqs; simp only [List.foldl_cons]; rw [foldl_add]; omega
theorem sumI_cons (x : Int) (l : List Int) : sumI (x :: l) = x + sumI l := by
  unfold sumI; simp only [List.foldl_cons]; rw [foldl_add l (fun v => v)]; omega
theorem sqs_diff (l : List Int) (o k : Int) : sqs l o - sqs l k = (k - o) * (2 * sumI l - (l.length : Int) * (o + k)) := by
  induction l with
  | nil => simp [sqs, sumI]
  | cons x l ih =>
    rw [sqs_cons, sqs_cons, sumI_cons, List.length_cons]
    have e : (x - o) * (x - o) - (x - k) * (x - k) = (k - o) * (2 * x - (o + k)) := by grind
    have : (x - o) * (x - o) + sqs l o - ((x - k) * (x - k) + sqs l k) = (k - o) * (2 * x - (o + k)) + (k - o) * (2 * sumI l - (l.length : Int) * (o + k)) := by rw [← ih, ← e]; omega
    rw [this]
    push_cast
    grind
theorem best (l : List Int) (o k : Int) (h1 : 2 * (sumI l - (l.length : Int) * k) ≤ (l.length : Int)) (h2 : -(l.length : Int) ≤ 2 * (sumI l - (l.length : Int) * k)) : sqs l k ≤ sqs l o := by
  have hd := sqs_diff l o k
  have : (k - o) * (2 * sumI l - (l.length : Int) * (o + k)) = 2 * (sumI l - (l.length : Int) * k) * (k - o) + (l.length : Int) * ((k - o) * (k - o)) := by grind
  rw [this] at hd
  generalize 2 * (sumI l - (l.length : Int) * k) = r at *
  generalize k - o = d at *
  generalize hn : (l.length : Int) = n at *
  have hn0 : 0 ≤ n := by omega
  have key : 0 ≤ r * d + n * (d * d) := by
    rcases Int.lt_trichotomy d 0 with h | h | h
    · have a1 : r * d ≥ n * d := by
        have := Int.mul_le_mul_of_nonneg_right (show r ≤ n from h1) (show 0 ≤ -d by omega)
        grind
      have a2 : n * d + n * (d * d) = n * (d * (d + 1)) := by grind
      have a3 : 0 ≤ d * (d + 1) := by
        have := Int.mul_nonneg (show 0 ≤ -d by omega) (show 0 ≤ -(d + 1) by omega)
        grind
      have a4 := Int.mul_nonneg hn0 a3
      omega
    · subst h; simp
    · have a1 : r * d ≥ (-n) * d := Int.mul_le_mul_of_nonneg_right h2 (by omega)
      have a2 : (-n) * d + n * (d * d) = n * (d * (d - 1)) := by grind
      have a3 : 0 ≤ d * (d - 1) := Int.mul_nonneg (by omega) (by omega)
      have a4 := Int.mul_nonneg hn0 a3
      omega
  omega
theorem sumI_snoc (l : List Int) (v : Int) : sumI (l ++ [v]) = sumI l + v := by unfold sumI; simp
theorem sqs_snoc (l : List Int) (v k : Int) : sqs (l ++ [v]) k = sqs l k + (v - k) * (v - k) := by unfold sqs; simp
theorem sumI_bd (l : List Int) (B : Int) (h : ∀ v ∈ l, -B ≤ v ∧ v ≤ B) : -((l.length : Int) * B) ≤ sumI l ∧ sumI l ≤ (l.length : Int) * B := by
  induction l with
  | nil => simp [sumI]
  | cons x l ih =>
    rw [sumI_cons]
    have h1 := ih fun v hv => h v (by simp [hv])
    have h2 := h x (by simp)
    have : ((x :: l).length : Int) * B = (l.length : Int) * B + B := by rw [List.length_cons]; push_cast; grind
    omega
theorem sq_bd (v k B : Int) (h : -B ≤ v - k ∧ v - k ≤ B) : 0 ≤ (v - k) * (v - k) ∧ (v - k) * (v - k) ≤ B * B := by
  generalize v - k = d at *
  constructor
  · rcases Int.le_total 0 d with h | h
    · exact Int.mul_nonneg h h
    · have := Int.mul_nonneg (show 0 ≤ -d by omega) (show 0 ≤ -d by omega)
      grind
  · have := Int.mul_nonneg (show 0 ≤ B - d by omega) (show 0 ≤ B + d by omega)
    grind
theorem sqs_bd (l : List Int) (k B : Int) (h : ∀ v ∈ l, -B ≤ v - k ∧ v - k ≤ B) : 0 ≤ sqs l k ∧ sqs l k ≤ (l.length : Int) * (B * B) := by
  induction l with
  | nil => simp [sqs]
  | cons x l ih =>
    rw [sqs_cons]
    have h1 := ih fun v hv => h v (by simp [hv])
    have h2 := sq_bd x k B (h x (by simp))
    have : ((x :: l).length : Int) * (B * B) = (l.length : Int) * (B * B) + B * B := by rw [List.length_cons]; push_cast; grind
    omega
end Go.Proofs.Yteblielaojmfbaa
