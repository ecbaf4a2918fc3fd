/- FloV: vec.Fixed's walk. -/
import Derived.Test.YtjdablkdndmcgaaKit
import Derived.Test.YtjdablkdndmcgaaFlo3
import Derived.WalkLawsBesides
import Derived.Laws.Externs
namespace Go.Proofs.Ytjdablkdndmcgaa
set_option linter.unusedVariables false
set_option linter.unusedSimpArgs false
open Go.RowKit
theorem frombits (n : Int) (W : World) : (callFunc 80 #[.int .u64 n]).run Try.prog W = .ok (.value (.float .f64 n.toNat)) W := by
  rw [run_callFunc_extern Try.func80 (by kernel_rfl) (by kernel_rfl) (by kernel_rfl) (e := Extern.MathFloatBits.float64frombits) (by kernel_rfl)]; rfl
theorem tobits (n : Nat) (W : World) : (callFunc 55 #[.float .f64 n]).run Try.prog W = .ok (.value (.int .u64 n)) W := by
  rw [run_callFunc_extern Try.func55 (by kernel_rfl) (by kernel_rfl) (by kernel_rfl) (e := Extern.MathFloatBits.float64bits) (by kernel_rfl)]; rfl
theorem toeven (x : Nat) (h : (Ieee.double.read x).isNaN = false) (W : World) : (callFunc 82 #[.float .f64 x]).run Try.prog W = .ok (.value (.float .f64 (Ieee.double.write ((Ieee.double.read x).integral .even)))) W := by
  rw [run_callFunc_extern Try.func82 (by kernel_rfl) (by kernel_rfl) (by kernel_rfl) (e := Extern.MathFloor.toIntegral "math.RoundToEven" .even) (by kernel_rfl)]
  show ((match FloatKind.f64.decode x with | .nan s t => _ | d => _ : Sem Value).run Try.prog W).andThen _ = _
  unfold FloatKind.decode
  show ((match Ieee.double.read x with | .nan s t => _ | d => _ : Sem Value).run Try.prog W).andThen _ = _
  cases hd : Ieee.double.read x with
  | nan s t => rw [hd] at h; cases h
  | number s m e => rfl
  | infinity s => rfl
theorem nan_odd (d : Nat) (h : (Ieee.double.read d).isNaN = true) : powerN d = 2047 ∧ 0 < partN d := by
  by_cases hp : powerN d = 2047
  · refine ⟨hp, ?_⟩
    rw [read_odd d hp] at h
    by_cases h0 : 0 < partN d
    · exact h0
    · rw [if_neg h0] at h; cases h
  · rw [read_num d hp] at h; cases h
theorem order_self (x : Nat) : Ieee.double.order x x = if (Ieee.double.read x).isNaN then none else some .eq := by
  unfold Ieee.Format.order
  cases hd : Ieee.double.read x with
  | nan s t => rfl
  | infinity s => cases s <;> rfl
  | number s m e => simp [Ieee.Datum.order, Ieee.Datum.isNaN, compare_same]
theorem Fixed_calls (d f : Int) (w : World) (h0 : 0 ≤ d) :
    Calls Try.prog 74 #[.int .u64 d, .int .i64 f] w fun e w' => e = .returned (.tuple #[.int .i16 (fix d f).1, .int .i64 (fix d f).2]) ∧ w' = w := by
  obtain ⟨n, rfl⟩ := Int.eq_ofNat_of_zero_le h0
  have fb : ∀ W, (callFunc 80 #[.int .u64 n]).run Try.prog W = .ok (.value (.float .f64 n)) W := fun W => frombits n W
  by_cases hf1 : f < 0
  · have hx : fix n f = (0, 2) := by unfold fix; rw [if_pos (.inl hf1)]
    rw [hx]
    go_enter Try.func74, Try.ntmps74
    go_wp2
    go_ret2
    exact ⟨rfl, rfl⟩
  by_cases hf2 : 15 < f
  · have hx : fix n f = (0, 2) := by unfold fix; rw [if_pos (.inr hf2)]
    rw [hx]
    go_enter Try.func74, Try.ntmps74
    go_wp2
    go_ret2
    exact ⟨rfl, rfl⟩
  have hfx : fix n f = fixN n f.toNat := by unfold fix; rw [if_neg (by omega)]; rfl
  have hor := order_self n
  cases hn : (Ieee.double.read n).isNaN with
  | true =>
    have hx : fix n f = (0, 2) := by
      obtain ⟨e1, e2⟩ := nan_odd n hn
      rw [hfx]; unfold fixN; rw [if_pos e1, if_pos e2]
    rw [hx]
    rw [hn, if_pos rfl] at hor
    have hneq : (FloatKind.f64.format.order n n != some Ordering.eq) = true := by
      show (Ieee.double.order n n != some .eq) = true
      rw [hor]; rfl
    clear hor hn
    go_enter Try.func74, Try.ntmps74
    go_wp2
    go_ret2
    exact ⟨rfl, rfl⟩
  | false =>
    obtain ⟨P, hm, hPn, hP⟩ := fixed_steps n f.toNat (by omega) hn
    rw [hn, if_neg (by decide)] at hor
    obtain ⟨k, rfl⟩ := Int.eq_ofNat_of_zero_le (show 0 ≤ f by omega)
    have hk : k ≤ 15 := by omega
    rw [show ((k : Int)).toNat = k from rfl] at hfx hP hm
    have hneq : (FloatKind.f64.format.order n n != some Ordering.eq) = false := by
      show (Ieee.double.order n n != some .eq) = false
      rw [hor]; rfl
    have hpw : FloatKind.f64.nearest ((2 ^ k : Nat) : Int) = floatOfInt .f64 (wrap64 (2 ^ k)) := by
      have h1 : (2 : Nat) ^ k ≤ 2 ^ 15 := Nat.pow_le_pow_right (by decide) hk
      have h3 : (2 : Nat) ^ 15 = 32768 := by decide
      have h2 : wrap64 (2 ^ k) = ((2 ^ k : Nat) : Int) := by
        rw [show ((2 : Int) ^ k) = ((2 ^ k : Nat) : Int) by exact_mod_cast rfl]
        unfold wrap64
        generalize (2 : Nat) ^ k = y at h1
        omega
      rw [h2]; rfl
    rw [hpw] at hm
    have hmul : ∀ W, (binOp .mul 82 (.float .f64 n) (.float .f64 (floatOfInt .f64 (wrap64 (2 ^ k))))).run Try.prog W = .ok (.float .f64 P) W := fun W => run_float_arith W .mul _ .f64 n _ P hm
    have hev : ∀ W, (callFunc 82 #[.float .f64 P]).run Try.prog W = _ := fun W => toeven P hPn W
    generalize Ieee.double.write ((Ieee.double.read P).integral .even) = R at hP hev
    rw [hfx]
    rcases hP with ⟨v, hx, ⟨hv1, hv2⟩, g1, g2, g3⟩ | ⟨hx, hc⟩
    · rw [hx]
      have b1 : (FloatKind.f64.format.order R 13898108450065350656 == some .gt || FloatKind.f64.format.order R 13898108450065350656 == some .eq) = true := by
        show (Ieee.double.order R 13898108450065350656 == some .gt || Ieee.double.order R 13898108450065350656 == some .eq) = true
        exact by rcases g1 with h | h <;> rw [h] <;> rfl
      have b2 : (FloatKind.f64.format.order R 4674736138332667904 == some .lt || FloatKind.f64.format.order R 4674736138332667904 == some .eq) = true := by
        show (Ieee.double.order R 4674736138332667904 == some .lt || Ieee.double.order R 4674736138332667904 == some .eq) = true
        exact by rcases g2 with h | h <;> rw [h] <;> rfl
      have hcv : ∀ W, (convert 82 29 (.float .f64 R)).run Try.prog W = .ok (.int .i16 v) W := fun W => run_convert_float_int W _ _ .f64 .i16 R v (by kernel_rfl) Try.underlying29 (by
        unfold floatToIntVal FloatKind.decode
        show (match (Ieee.double.read R).toInt .zero with | some n => _ | none => _) = _
        rw [g3]; exact if_pos ⟨hv1, hv2⟩)
      clear hPn hm hor hfx hpw g1 g2 g3 hx
      go_enter Try.func74, Try.ntmps74
      go_wp2
      go_ret2
      exact ⟨rfl, rfl⟩
    · rw [hx]
      rcases hc with g1 | ⟨g1, g2⟩
      · have b1 : (FloatKind.f64.format.order R 13898108450065350656 == some .gt || FloatKind.f64.format.order R 13898108450065350656 == some .eq) = false := by
          show (Ieee.double.order R 13898108450065350656 == some .gt || Ieee.double.order R 13898108450065350656 == some .eq) = false
          rw [g1]; rfl
        clear hPn hm hor hfx hpw g1 hx
        go_enter Try.func74, Try.ntmps74
        go_wp2
        go_ret2
        exact ⟨rfl, rfl⟩
      · have b1 : (FloatKind.f64.format.order R 13898108450065350656 == some .gt || FloatKind.f64.format.order R 13898108450065350656 == some .eq) = true := by
          show (Ieee.double.order R 13898108450065350656 == some .gt || Ieee.double.order R 13898108450065350656 == some .eq) = true
          rw [g1]; rfl
        have b2 : (FloatKind.f64.format.order R 4674736138332667904 == some .lt || FloatKind.f64.format.order R 4674736138332667904 == some .eq) = false := by
          show (Ieee.double.order R 4674736138332667904 == some .lt || Ieee.double.order R 4674736138332667904 == some .eq) = false
          rw [g2]; rfl
        clear hPn hm hor hfx hpw g1 g2 hx
        go_enter Try.func74, Try.ntmps74
        go_wp2
        go_ret2
        exact ⟨rfl, rfl⟩
end Go.Proofs.Ytjdablkdndmcgaa
