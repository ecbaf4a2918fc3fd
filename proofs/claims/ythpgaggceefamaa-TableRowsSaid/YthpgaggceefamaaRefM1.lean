/- The reference's square, Width, Cut, Dim. -/
import Derived.Test.YthpgaggceefamaaRefB1
import Derived.Test.YthpgaggceefamaaTabMake
namespace Go.Proofs.Ythpgaggceefamaa
set_option linter.unusedVariables false
set_option linter.unusedSimpArgs false
open Go.RowKit
theorem Square_calls (A B : Option Addr) (c d : Nat) (a b : List Int) (w : World) (h : SlI w .i32 A c a) (k : SlI w .i32 B d b) (hl : a.length ≤ b.length) (hl2 : a.length ≤ 1024) (ha : ∀ v ∈ a, -131072 ≤ v ∧ v ≤ 131072) (hb : ∀ v ∈ b, -131072 ≤ v ∧ v ≤ 131072) :
    Calls Try.prog 56 #[.slice A a.length c, .slice B b.length d] w fun e w' => e = .returned (.int .i64 (dsq a b a.length)) ∧ Below w.heap.size w w' := by
  have hm := h.len
  have km := k.len
  have VA := Lib.hid ha
  have VB := Lib.hid hb
  clear ha hb
  go_enter Try.func56, Try.ntmps56
  go_wp2_with fail
  go_loopg [5, 6, 7] (a.length + 1) (fun gk s i u w' => ∃ j : Nat, i = .int .i64 (j : Int) ∧ s = .int .i64 (dsq a b j) ∧ j ≤ a.length ∧ a.length < j + gk ∧ Below w.heap.size w w')
  case atStart => exact ⟨0, rfl, rfl, by omega, by omega, Below.refl _ _⟩
  case round =>
    obtain ⟨j, rfl, rfl, hj, hg, bw⟩ := hrel
    by_cases hlt : j < a.length
    · have j1 : (j : Int) < (a.length : Int) := by omega
      have hltb : j < b.length := by omega
      have j2 : (j : Int) < (b.length : Int) := by omega
      obtain ⟨aa, rfl, hca⟩ := (h.below bw).get j hlt
      obtain ⟨ab, rfl, hcb⟩ := (k.below bw).get j hltb
      have xa := VA.out _ (getD_mem hlt)
      have xb := VB.out _ (getD_mem hltb)
      have q2 := dsq_bd VA.out VB.out j (by omega) (by omega)
      have q3 := dsq_bd VA.out VB.out (j + 1) (by omega) (by omega)
      have hs := Lib.hid (show dsq a b (j + 1) = dsq a b j + (a.getD j 0 - b.getD j 0) * (a.getD j 0 - b.getD j 0) from rfl)
      rw [hs.out] at q3
      generalize a.getD j 0 = u at *
      generalize b.getD j 0 = v at *
      generalize dsq a b j = S at *
      obtain ⟨q5, q6, q7⟩ := sq_step u v S j a.length a.length hlt (Nat.le_refl _) hl2 q2 q3
      clear q2 q3
      go_wp2_with fail
      go_quiet (fail)
      go_wp2_with fail
      go_roundg (gk - 1)
      case measure => omega
      case rel => exact ⟨j + 1, by simp, by rw [hs.out], by omega, by omega, below_drewN bw _⟩
    · obtain rfl : j = a.length := by omega
      have j1 : ¬ (a.length : Int) < (a.length : Int) := by omega
      go_wp2_with fail
      go_ret
      exact ⟨rfl, bw⟩
theorem RDim_calls (A : Option Addr) (c : Nat) (b : List (List (List Int))) (w : World) (h : SlB w .i32 A c b) (hS : shortB b) :
    Calls Try.prog 11 #[.agg #[.slice A b.length c]] w fun e w' => e = .returned (.int .i64 (dimB b)) ∧ Below w.heap.size w w' := by
  have b1 := below_alloc (Below.refl w.heap.size w) (.cells #[.slice A b.length c] 24)
  have hbox := box_cell (w := w) 24 (.slice A b.length c)
  have SC := RBCheck_calls A c b _ (h.below b1) hS
  by_cases h0 : ckB b = 0
  · have H := Lib.hid (show dimB b = (b.length : Int) * (wdB b : Int) by unfold dimB; rw [if_neg (by rw [h0]; decide)]; exact Int.natCast_mul _ _)
    obtain ⟨l1, l2, l3, l4, l5, l6, l7, _⟩ := ckB_ok h0
    obtain ⟨a0, E, k, rfl, hx0, hs0⟩ := h.get 0 (by omega)
    rw [show a0.add 0 = a0 from rfl, show (b.getD 0 []).length = n0B b from rfl] at hx0
    obtain ⟨e0, G, q, rfl, hy0, hv0⟩ := hs0.get 0 (show 0 < n0B b by omega)
    rw [show e0.add 0 = e0 from rfl, show ((b.getD 0 []).getD 0 []).length = wdB b from rfl] at hy0
    have i1 : (0 : Int) < (b.length : Int) := by omega
    have i2 : (0 : Int) < (n0B b : Int) := by omega
    have hcast : ((b.length * wdB b : Nat) : Int) = (b.length : Int) * (wdB b : Int) := Int.natCast_mul _ _
    have i3 : 0 ≤ (b.length : Int) * (wdB b : Int) ∧ (b.length : Int) * (wdB b : Int) ≤ 1024 := by omega
    rw [h0] at SC
    clear h0 hcast l5
    go_enter Try.func11, Try.ntmps11
    go_wp2_with fail
    refine SC.mono ?_
    rintro e w1 ⟨rfl, b2⟩
    have hbox2 := cell_below b2 _ _ hbox
    have b3 := below_trans b1 b2
    have hx := cell_below b3 _ _ hx0
    have hy := cell_below b3 _ _ hy0
    clear b1 b2 hbox SC hs0 hv0 hS
    generalize wdB b = m at *
    generalize n0B b = n at *
    go_wp2_with fail
    go_quiet (fail)
    go_wp2_with fail
    go_ret
    exact ⟨ret_int' H.out.symm, below_drewN b3 _⟩
  · have H := Lib.hid (show dimB b = 0 by unfold dimB; rw [if_pos h0])
    generalize ckB b = x at *
    have i0 : (x != 0) = true := by simpa using h0
    clear h0
    go_enter Try.func11, Try.ntmps11
    go_wp2_with fail
    refine SC.mono ?_
    rintro e w1 ⟨rfl, b2⟩
    go_wp2_with fail
    go_ret
    rw [H.out]; exact ⟨rfl, below_trans b1 b2⟩
theorem RWidth_calls (n p m : Nat) (w : World) (hn : n = p * m) (h1 : 1 ≤ n) (h2 : n ≤ 1024) (hp : 1 ≤ p) :
    Calls Try.prog 63 #[.int .i64 (n : Int), .int .i64 (p : Int)] w fun e w' => e = .returned (.int .i64 (m : Int)) ∧ w = w' := by
  have i1 : ¬ (n : Int) < 1 := by omega
  have i2 : ¬ (n : Int) > 1024 := by omega
  have i3 : ¬ (p : Int) < 1 := by omega
  have i4 : (p : Int) ≠ 0 := by omega
  have pn : p ≤ n := by rcases Nat.eq_zero_or_pos m with h | h; subst h; omega; have := Nat.le_mul_of_pos_right p h; omega
  have mn : m ≤ n := by have := Nat.le_mul_of_pos_left m hp; omega
  have mi : (m : Int) ≤ 1024 := by omega
  have hq : (n : Int).tdiv (p : Int) = (m : Int) := by rw [hn, Int.natCast_mul, Int.mul_tdiv_cancel_left _ i4]
  have hr : (n : Int).tmod (p : Int) = 0 := by rw [hn, Int.natCast_mul]; exact Int.mul_tmod_right _ _
  have CC : ∀ W, Calls Try.prog 69 #[.int .i64 (n : Int), .int .i64 (p : Int)] W fun e w' => e = .returned (.int .i64 0) ∧ W = w' := fun W => by
    clear hn hq
    go_enter Try.func69, Try.ntmps69
    go_wp2_with fail
    go_ret
    exact ⟨rfl, rfl⟩
  clear hn hr
  go_enter Try.func63, Try.ntmps63
  go_wp2_with fail
  refine (CC _).mono ?_
  rintro e w1 ⟨rfl, rfl⟩
  go_wp2_with fail
  go_ret
  exact ⟨rfl, rfl⟩
def cutL (v : List Int) (m p : Nat) : List (List Int) := (List.range p).map (partR v m)
theorem cutL_take {v : List Int} {m p j : Nat} (h : j < p) : (cutL v m p).take (j + 1) = (cutL v m p).take j ++ [partR v m j] := by
  have hl : j < (cutL v m p).length := by simp [cutL]; exact h
  rw [List.take_add_one, List.getElem?_eq_getElem hl]
  simp [cutL]
theorem cutL_length (v : List Int) (m p : Nat) : (cutL v m p).length = p := by simp [cutL]
theorem Cut_calls (A : Option Addr) (c : Nat) (v : List Int) (p m : Nat) (w : World) (h : SlI w .i32 A c v) (hv : v.length = p * m) (h1 : 1 ≤ v.length) (h2 : v.length ≤ 1024) (hp : 1 ≤ p) (hm1 : 1 ≤ m) :
    Calls Try.prog 49 #[.slice A v.length c, .int .i64 (p : Int)] w fun e w' => ∃ A' c', e = .returned (.tuple #[.slice A' p c', .int .i64 0]) ∧ OwnS w' w.heap.size 25 .i32 A' c' (cutL v m p) ∧ Below w.heap.size w w' := by
  have hm := h.len
  have hc := h.le
  have WC := fun W => RWidth_calls v.length p m W hv h1 h2 hp
  have HV := Lib.hid hv
  have HL := Lib.hid (cutL_length v m p)
  have i0 : ((m : Int) == 0) = false := by simp; omega
  have pn : p ≤ v.length := by rw [hv]; exact Nat.le_mul_of_pos_right p hm1
  clear hv
  go_enter Try.func49, Try.ntmps49
  go_wp2_with fail
  refine (WC _).mono ?_
  rintro e w1 ⟨rfl, rfl⟩
  go_wp2_with fail
  go_loopg [7, 8] (p + 1) (fun gk o i w' => ∃ (j : Nat) (A1 : Option Addr) (c1 : Nat), i = .int .i64 (j : Int) ∧ o = .slice A1 j c1 ∧ j ≤ p ∧ p < j + gk ∧ OwnS w' w.heap.size 25 .i32 A1 c1 ((cutL v m p).take j) ∧ Below w.heap.size w w')
  case atStart => exact ⟨0, none, 0, rfl, rfl, by omega, by omega, by rw [List.take_zero]; exact OwnS.nil _ _ _ _, Below.refl _ _⟩
  case round =>
    obtain ⟨j, A1, c1, rfl, rfl, hj, hg, ho, bw⟩ := hrel
    by_cases hlt : j < p
    · have i1 : (j : Int) < (p : Int) := by omega
      have hmul : j * m + m ≤ v.length := by rw [HV.out]; have := Nat.mul_le_mul_right m (show j + 1 ≤ p by omega); rw [Nat.add_mul, Nat.one_mul] at this; exact this
      have hcm : ((j * m : Nat) : Int) = (j : Int) * (m : Int) := Int.natCast_mul _ _
      obtain ⟨i0', hi0, hz0⟩ : ∃ i : TypeInfo, Try.prog.info? 21 = some i ∧ i.size = 1 := ⟨_, rfl, by kernel_rfl⟩
      obtain ⟨A5, hcut, hA1, hA2⟩ := cut_lh_i (P := Try.prog) 25 21 .i64 .i64 Try.underlying25 hi0 hz0 A v.length c (j * m) (j * m + m) ((j : Int) * (m : Int)) ((j : Int) * (m : Int) + (m : Int)) (by omega) (by omega) (by omega) (by omega) hc m (c - j * m) (by omega) (by omega)
      have hpl := partR_length (p := j) HV.out hlt
      have HT := Lib.hid (cutL_take (v := v) (m := m) hlt)
      have hps : SlI wr .i32 A5 (c - j * m) (partR v m j) := hA1 wr .i32 v rfl (h.below bw)
      have wr1 : 0 ≤ (j : Int) * (m : Int) ∧ (j : Int) * (m : Int) ≤ 1024 := by omega
      have hml : (m : Int) ≤ 1024 := by omega
      generalize c - j * m = c5 at *
      clear hcm hmul hA1 hA2 hi0 hz0
      obtain ⟨vs, ov, rv⟩ := ho
      have hvl : vs.length = j := by rw [rv.1, List.length_take, HL.out]; omega
      generalize partR v m j = pr at *
      generalize (cutL v m p).take j = tk at *
      subst hvl
      have hml2 : pr.length ≤ 1024 := by omega
      have oe := own_empty wr wr.heap.size 21 (Nat.le_refl _)
      subst hpl
      go_wp2_with (at_builtin; refine app_row wr.heap.size rfl _ _ 25 21 .i32 4 rfl Try.underlying25 (by kernel_rfl) (by decide) _ _ [] pr A5 c5 rfl rfl oe (hps.below (below_box _)).rd (by simp) (by simp; omega) ?_)
      intro B2 d2 w2 o2 hg2 _ _
      have b2 := below_grown (below_box (w := wr) (.cells #[] 21)) hg2 oe (Nat.le_refl _)
      have ov1 := own_below ov b2
      have rv1 := rv.below b2
      have bw1 := below_trans bw b2
      clear hg2 oe hps hcut
      go_wp2_with (at_builtin; refine app_val w.heap.size rfl _ _ 41 25 (.slice none 0 0) 24 rfl Try.underlying41 (by kernel_rfl) (by decide) rfl A1 c1 vs (.slice B2 pr.length d2) rfl rfl ov1 rfl bw1.size (by omega) ?_)
      intro B1 d1 w3 o3 hg3 hat
      have zS := ownS_app1 rv1 ov1 (show OwnI w2 wr.heap.size 21 .i32 B2 d2 pr from by simpa using o2) (fun k hk => (ov.lt k hk).2) bw.size o3 hg3 (by simpa using hat) b2.size
      have bw3 : Below w.heap.size w w3 := (bw1.alloc bw1.size _).grown hg3 (by have := bw1.size; simp; omega) (fun k hk => own_base ov1 k hk)
      rw [← HT.out] at zS
      clear hg3 hat o3 o2 ov1 rv1 ov rv b2 bw bw1
      go_wp2_with fail
      go_roundg (gk - 1)
      case measure => omega
      case rel => exact ⟨vs.length + 1, B1, d1, by simp, by simp, by omega, by omega, zS, bw3⟩
    · obtain rfl : j = p := by omega
      have i1 : ¬ (j : Int) < (j : Int) := by omega
      rw [List.take_of_length_le (by rw [HL.out]; exact Nat.le_refl _)] at ho
      go_wp2_with fail
      go_ret2
      exact ⟨A1, c1, rfl, ho, bw⟩
end Go.Proofs.Ythpgaggceefamaa
