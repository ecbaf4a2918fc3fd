import Derived.Test.YtfedgpcbndbddaaOctetLaws3
namespace Go.Proofs.Ytfedgpcbndbddaa
set_option linter.unusedVariables false
set_option linter.unusedSimpArgs false
open Go.RowKit
/-- A reader is not changed where another row is written. -/
theorem Rdr.store {w : World} {lo p g i : Nat} {v : Value} {b : List Int} {e : Int} (h : Rdr w lo p b e) (hg : g < lo) (hlo : lo ≤ p) : Rdr (w.setCell ⟨g, i, none⟩ v) lo p b e :=
  h.grown (grown_set w g i v) (.inl hg) hlo
theorem tk_own1 (b s : List Int) (h : b.length ≤ 200) : tk (b ++ s) 0 b.length 9223372036854775807 = (b, s, 0) := by
  unfold tk; rw [if_neg (by simp), if_neg (by omega), if_neg (by simp; omega)]; simp
theorem tk_own2 (s : List Int) (h : s.length ≤ 200) : tk s 0 s.length 9223372036854775807 = (s, [], 0) := by
  unfold tk; rw [if_neg (by simp), if_neg (by omega), if_neg (by simp)]; simp
set_option maxHeartbeats 1000000 in
theorem own_core (A S : Option Addr) (c cs : Nat) (b s zs ps : List Int) (x n : Int) (w : World) (h : SlI w .u8 A c b) (hs : SlI w .u8 S cs s) (hl : b.length ≤ 200) (hl2 : s.length ≤ 200)
    (hz : Hid (b ++ s = zs)) (hp : Hid (b ++ lowB x (many8 n) = ps)) :
    Calls Try.prog 4 #[.slice A b.length c, .slice S s.length cs, .int .u64 x, .int .i64 n] w fun e w' => e = .returned (.bool true) ∧ Below w.heap.size w w' := by
  have i1 : ¬ (b.length : Int) > 200 := by omega
  have i2 : ¬ (s.length : Int) > 200 := by omega
  have zl : zs.length = b.length + s.length := by rw [← hz.out, List.length_append]
  have zl1 : b.length ≤ zs.length := by omega
  have zl2 : zs.length ≤ 400 := by omega
  have ZL := Lib.hid zl
  have pl : b.length ≤ ps.length := by rw [← hp.out, List.length_append]; omega
  have pl2 : ps.length ≤ 208 := by rw [← hp.out, List.length_append, lowB_length]; have := many8_le n; omega
  have zt : zs.take b.length = b := by rw [← hz.out]; simp
  have zd : zs.drop b.length = s := by rw [← hz.out]; simp
  have pt : ps.take b.length = b := by rw [← hp.out]; simp
  have ZT := Lib.hid zt
  have ZD := Lib.hid zd
  have PT := Lib.hid pt
  clear zl zt zd pt
  obtain ⟨i0, hi, _, hz1, _⟩ := info_parts (P := Try.prog) (e := 5) (z := .int .u8 0) (size := 1) (bytes := 1) (by kernel_rfl)
  go_enter Try.func4, Try.ntmps4
  go_wp2_with fail
  refine (lives_calls _).mono ?_
  rintro e w1 ⟨rfl, b1⟩
  go_wp2_with fail
  refine (Own_byte_calls A c b _ (h.below b1) (by omega)).mono ?_
  rintro e w2 ⟨A2, c2, rfl, h2, b2⟩
  have b02 := below_trans b1 b2
  have h2' := own_mono h2 b1.size
  clear b2 h2
  go_wp2_with (at_builtin; refine app_row_is w.heap.size rfl _ _ 22 5 .u8 1 rfl Try.underlying22 (by kernel_rfl) (by decide) A2 c2 b s zs hz S cs rfl rfl h2' (hs.below b02).rd b02.size (by omega) ?_)
  intro A3 c3 w3 h3 g3 _
  have b03 := below_grown b02 g3 h2' (Nat.le_refl _)
  clear g3 h2' b02
  have c3le := h3.le
  have c3b : b.length ≤ c3 := by omega
  have s3 := h3.sl.take b.length c3 c3b (Nat.le_refl _)
  rw [ZT.out] at s3
  go_wp2_with fail
  refine (Put_is A3 c3 b x n _ s3 (by omega) ps hp).mono ?_
  rintro e w4 ⟨A4, c4, rfl, h4, b4⟩
  have b04 := below_trans b03 b4
  have h3' := own_below h3 b4
  have c4le := h4.le
  have c4b : b.length ≤ c4 := by omega
  clear b03 b4 h3 s3
  obtain ⟨A5, hcut, hA1, _⟩ := cut_l (P := Try.prog) 22 5 .i64 Try.underlying22 hi hz1 A3 zs.length c3 b.length zl1 c3le
  have s5 := hA1 w4 .u8 zs rfl (OwnI.sl h3')
  rw [ZD.out] at s5
  have ezl : zs.length - b.length = s.length := by have := ZL.out; omega
  rw [ezl] at hcut
  clear hA1 ezl
  go_wp2_with fail
  refine (Same_byte_b A5 S _ cs s s _ s5 (hs.below b04)).mono ?_
  rintro e w5 ⟨rfl, b5⟩
  have b05 := below_trans b04 b5
  have s6 := (h4.sl.take b.length c4 c4b (Nat.le_refl _)).below b5
  rw [PT.out] at s6
  have h7 := own_below h3' b5
  clear b04 s5 h3' h4 b5
  go_wp2_with fail
  refine (Same_byte_b A4 A c4 c b b _ s6 (h.below b05)).mono ?_
  rintro e w6 ⟨rfl, b6⟩
  have b06 := below_trans b05 b6
  have h8 := own_below h7 b6
  clear s6 b05 hcut b6 h7
  go_wp2_with fail
  refine (New_calls A3 c3 zs _ (OwnI.sl h8) (by omega)).mono ?_
  rintro e w7 ⟨p, rfl, p0, p1, r7, b7⟩
  have h9 := own_below h8 b7
  have b07 := below_trans b06 b7
  have pw : w.heap.size ≤ p := Nat.le_trans b06.size p0
  have hlt : Hid (∀ g, A3 = some ⟨g, 0, none⟩ → g < w6.heap.size) := fun g hg => (h8.lt g (by rw [hg]; rfl)).2
  clear b06 b7 h8
  go_wp2_with fail
  go_loopg [12] (zs.length + 1) (fun gk i w' => ∃ (j : Nat) (ys : List Int), i = .int .i64 (j : Int) ∧ j ≤ zs.length ∧ zs.length < j + gk ∧ Hid (ys.length = zs.length) ∧ OwnI w' w.heap.size 5 .u8 A3 c3 ys ∧ Rdr w' w6.heap.size p zs 0 ∧ Below w.heap.size w w')
  case atStart => exact ⟨0, zs, rfl, by omega, by omega, rfl, h9, r7, b07⟩
  case round =>
    clear h9 r7 b07
    obtain ⟨j, ys, rfl, hj, hg, hy, h9, r7, b07⟩ := hrel
    by_cases hlt2 : j < zs.length
    · obtain ⟨g, rfl, hg0, hg1⟩ := own_form h9 (by have := hy.out; omega)
      have hcell := OwnI.cell h9 j (by have := hy.out; omega)
      obtain ⟨hc1, hc2⟩ := hcell
      have hjl : (j : Int) < (zs.length : Int) := by omega
      have hst := OwnI.put h9 j ((ys.getD j 0 + 1) % 256)
      have rst := r7.store (i := j) (v := .int .u8 ((ys.getD j 0 + 1) % 256)) (hlt.out g rfl) p0
      have bst := b07.setCell (p := ⟨g, j, none⟩) hg0 (.int .u8 ((ys.getD j 0 + 1) % 256))
      generalize ys.getD j 0 = y at *
      go_wp2
      go_roundg (gk - 1)
      case measure => omega
      case rel => exact ⟨j + 1, ys.set j ((y + 1) % 256), by simp, by omega, by omega, by show _ = _; simpa using hy.out, hst, rst, bst⟩
    · have hjl : ¬ (j : Int) < (zs.length : Int) := by omega
      have T1 : Hid (tk zs 0 (b.length : Int) 9223372036854775807 = (b, s, 0)) := by show _ = _; rw [← hz.out]; exact tk_own1 b s hl
      have T2 : Hid (tk s 0 (s.length : Int) 9223372036854775807 = (s, [], 0)) := tk_own2 s hl2
      clear h9
      go_wp2_with fail
      refine (Bytes_calls _ p zs 0 _ _ r7 b s 0 T1).mono ?_
      rintro e w8 ⟨A8, c8, rfl, s8, r8, g8⟩
      have b08 := below_grown_p b07 g8 pw
      clear b07 g8 r7
      go_wp2_with fail
      refine (Same_byte_b A8 A c8 c b b _ s8 (h.below b08)).mono ?_
      rintro e w9 ⟨rfl, b9⟩
      have r9 := r8.below b9
      have b09 := below_trans b08 b9
      clear b08 b9 r8 s8
      go_wp2_with fail
      refine (Bytes_calls _ p s 0 _ _ r9 s [] 0 T2).mono ?_
      rintro e w10 ⟨A10, c10, rfl, s10, r10, g10⟩
      have b10 := below_grown_p b09 g10 pw
      clear b09 g10 r9
      go_wp2_with fail
      refine (Same_byte_b A10 S c10 cs s s _ s10 (hs.below b10)).mono ?_
      rintro e w11 ⟨rfl, b11⟩
      have b12 := below_trans b10 b11
      go_wp2_with fail
      go_ret
      exact ⟨rfl, b12⟩
theorem OctetOwn_calls (A S : Option Addr) (c cs : Nat) (b s : List Int) (x n : Int) (w : World) (h : SlI w .u8 A c b) (hs : SlI w .u8 S cs s) :
    Calls Try.prog 4 #[.slice A b.length c, .slice S s.length cs, .int .u64 x, .int .i64 n] w fun e w' => e = .returned (.bool true) ∧ Below w.heap.size w w' := by
  have hm := h.len
  have hms := hs.len
  by_cases hl : b.length > 200
  · have i1 : (b.length : Int) > 200 := by omega
    go_enter Try.func4, Try.ntmps4
    go_wp2_with fail
    refine (lives_calls _).mono ?_
    rintro e w1 ⟨rfl, b1⟩
    go_wp2_with fail
    go_ret
    exact ⟨rfl, b1⟩
  · by_cases hl2 : s.length > 200
    · have i1 : ¬ (b.length : Int) > 200 := by omega
      have i2 : (s.length : Int) > 200 := by omega
      go_enter Try.func4, Try.ntmps4
      go_wp2_with fail
      refine (lives_calls _).mono ?_
      rintro e w1 ⟨rfl, b1⟩
      go_wp2_with fail
      go_ret
      exact ⟨rfl, b1⟩
    · exact own_core A S c cs b s _ _ x n w h hs (by omega) (by omega) (Lib.hid rfl) (Lib.hid rfl)
end Go.Proofs.Ytfedgpcbndbddaa
