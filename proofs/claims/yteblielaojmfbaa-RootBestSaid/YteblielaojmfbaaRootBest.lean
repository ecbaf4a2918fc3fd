import Derived.Test.YteblielaojmfbaaBestMath
import Derived.Test.YteblielaojmfbaaRootLaws
import Derived.Test.YteblielaojmfbaaMem
import Derived.Test.YteblielaojmfbaaSized
import Derived.Test.YteblielaojmfbaaMake
namespace Go.Proofs.Yteblielaojmfbaa
set_option linter.unusedVariables false
set_option linter.unusedSimpArgs false
open Go.RowKit
def q4 (l : List Int) : List Int := l.map fun v => v.tdiv 4
def r20 (l : List Int) : List Int := l.map fun v => v.tmod 1048576
theorem take_snoc (l : List Int) (f : Int → Int) (j : Nat) (h : j < l.length) : (l.map f).take (j + 1) = (l.map f).take j ++ [f (l.getD j 0)] := by
  rw [List.take_add_one, List.getElem?_map, List.getElem?_eq_getElem h, List.getD_eq_getElem?_getD, List.getElem?_eq_getElem h]; rfl
theorem take_bd {l : List Int} {B : Int} (h : ∀ v ∈ l, -B ≤ v ∧ v ≤ B) (j : Nat) : ∀ v ∈ l.take j, -B ≤ v ∧ v ≤ B := fun v hv => h v (List.mem_of_mem_take hv)
theorem t4 {x : Int} (h : -2147483648 ≤ x ∧ x ≤ 2147483647) : -536870912 ≤ x.tdiv 4 ∧ x.tdiv 4 ≤ 536870912 := by
  have := Int.tdiv_eq_ediv (a := x) (b := 4)
  rw [show Int.sign 4 = 1 by decide] at this
  split at this <;> omega
theorem q4_bd {l : List Int} (h : ∀ v ∈ l, -2147483648 ≤ v ∧ v ≤ 2147483647) : ∀ v ∈ q4 l, -536870912 ≤ v ∧ v ≤ 536870912 := fun v hv => by
  obtain ⟨x, hx, rfl⟩ := List.mem_map.1 hv
  have := h x hx
  exact t4 this
theorem r20_bd {l : List Int} : ∀ v ∈ r20 l, -1048576 ≤ v ∧ v ≤ 1048576 := fun v hv => by
  obtain ⟨x, hx, rfl⟩ := List.mem_map.1 hv
  have h1 := Int.tmod_lt_of_pos x (show (0 : Int) < 1048576 by decide)
  have h2 := Int.tmod_lt_of_pos (-x) (show (0 : Int) < 1048576 by decide)
  rw [Int.neg_tmod] at h2
  omega
set_option maxHeartbeats 4000000 in
set_option maxRecDepth 100000 in
theorem best_core (L : Option Addr) (c : Nat) (l : List Int) (o : Int) (w : World) (hL : SlI w .i32 L c l) (wl : ∀ x ∈ l, -2147483648 ≤ x ∧ x ≤ 2147483647) (wo : -2147483648 ≤ o ∧ o ≤ 2147483647) (h1 : 1 ≤ l.length) (h2 : l.length ≤ 60) :
    Calls Try.prog 4 #[.slice L l.length c, .int .i32 o] w fun e w' => e = .returned (.bool true) ∧ Below w.heap.size w w' := by
  have i1 : ¬ (l.length : Int) < 1 := by omega
  have i2 : ¬ (l.length : Int) > 60 := by omega
  have Q4 := Lib.hid (q4_bd wl)
  go_enter Try.func4, Try.ntmps4
  go_wp2_with fail
  refine (lives_calls _).mono ?_
  rintro e w1 ⟨rfl, rfl⟩
  go_wp2_with fail
  go_loopg [6, 7] (l.length + 1) (fun gk s i w' => ∃ j : Nat, i = .int .i64 (j : Int) ∧ j ≤ l.length ∧ l.length < j + gk ∧ s = .int .i64 (sumI ((q4 l).take j)) ∧ w' = w)
  case atStart => exact ⟨0, rfl, by omega, by omega, rfl, rfl⟩
  case round =>
    obtain ⟨j, rfl, hj, hg, rfl, rfl⟩ := hrel
    have hb := sumI_bd _ _ (take_bd Q4.out j)
    have hlen : ((q4 l).take j).length = j := by simp [q4]; omega
    rw [hlen] at hb
    by_cases hlt : j < l.length
    · have j1 : (j : Int) < (l.length : Int) := by omega
      obtain ⟨al, rfl, hc⟩ := hL.get j hlt
      have hw : -2147483648 ≤ l.getD j 0 ∧ l.getD j 0 ≤ 2147483647 := by rw [List.getD_eq_getElem?_getD, List.getElem?_eq_getElem hlt]; exact wl _ (List.getElem_mem _)
      have ht := Lib.hid (show sumI ((q4 l).take (j + 1)) = sumI ((q4 l).take j) + (l.getD j 0).tdiv 4 by unfold q4; rw [take_snoc _ _ _ hlt, sumI_snoc])
      have hv := t4 hw
      generalize l.getD j 0 = v at *
      generalize sumI ((q4 l).take j) = S at *
      go_wp2_with fail
      go_roundg (gk - 1)
      case measure => omega
      case rel => exact ⟨j + 1, by simp, by omega, by omega, by rw [ht.out], rfl⟩
    · have j1 : ¬ (j : Int) < (l.length : Int) := by omega
      have htk : (q4 l).take j = q4 l := List.take_of_length_le (by simp [q4]; omega)
      rw [htk] at hb ⊢
      have hb2 : -((l.length : Int) * 536870912) ≤ sumI (q4 l) ∧ sumI (q4 l) ≤ (l.length : Int) * 536870912 := by rw [show l.length = j by omega]; exact hb
      generalize sumI (q4 l) = S at *
      have hM := mean_ok S (l.length : Int) 536870912 (by omega) (by omega) hb2.1 hb2.2 (by omega) (by omega)
      have hMC := fun w => Mean_calls S (l.length : Int) w (by omega) (by omega) (by omega)
      rw [hM.1] at hMC
      generalize (meanI S (l.length : Int)).1 = m at *
      obtain ⟨_, m1, m2, m3, m4⟩ := hM
      have m5 : -32212254800 ≤ (l.length : Int) * m ∧ (l.length : Int) * m ≤ 32212254800 := by omega
      generalize hnm : (l.length : Int) * m = nm at *
      clear hb hb2 htk
      go_wp2_with fail
      refine (hMC _).mono ?_
      rintro e w' ⟨rfl, rfl⟩
      go_wp2_with (refine wp_make0 rfl _ _ 30 rfl 2 .i64 8 Try.underlying30 (by kernel_rfl) _ _ _ l.length rfl rfl rfl (by omega) (by unfold maxLen; omega) ?_)
      intro w3 h3 b3
      go_wp2_with fail
      go_loopg [10, 11, 12, 13] (l.length + 1) (fun gk v s i u w' => ∃ (t : Nat) (B : Option Addr) (cb : Nat), i = .int .i64 (t : Int) ∧ t ≤ l.length ∧ l.length < t + gk ∧ v = .slice B ((r20 l).take t).length cb ∧ s = .int .i64 (sumI ((r20 l).take t)) ∧ OwnI w' wr.heap.size 2 .i64 B cb ((r20 l).take t) ∧ Below wr.heap.size wr w')
      case atStart => exact ⟨0, _, _, rfl, by omega, by omega, rfl, rfl, h3, b3⟩
      case round =>
        clear h3 b3
        obtain ⟨t, B, cb, rfl, ht, hg2, rfl, rfl, h3, b3⟩ := hrel
        have hb := sumI_bd _ _ (take_bd (r20_bd (l := l)) t)
        have hlen2 := Lib.hid (show ((r20 l).take t).length = t by simp [r20]; omega)
        rw [hlen2.out] at hb
        by_cases hlt2 : t < l.length
        · have t1 : (t : Int) < (l.length : Int) := by omega
          obtain ⟨al, rfl, hc⟩ := (hL.below b3).get t hlt2
          have ht2 := Lib.hid (show (r20 l).take (t + 1) = (r20 l).take t ++ [(l.getD t 0).tmod 1048576] by unfold r20; rw [take_snoc _ _ _ hlt2])
          have hsn := Lib.hid (sumI_snoc ((r20 l).take t) ((l.getD t 0).tmod 1048576))
          have hv1 := Int.tmod_lt_of_pos (l.getD t 0) (show (0 : Int) < 1048576 by decide)
          have hv2 := Int.tmod_lt_of_pos (-(l.getD t 0)) (show (0 : Int) < 1048576 by decide)
          rw [Int.neg_tmod] at hv2
          generalize l.getD t 0 = v at *
          generalize (r20 l).take t = xs at *
          generalize sumI xs = S2 at *
          have hbase := b3.size
          have hxl : xs.length ≤ 60 := by have := hlen2.out; omega
          go_wp2_with (at_builtin; refine (app_one _ rfl _ _ 30 2 .i64 8 rfl Try.underlying30 (by kernel_rfl) (by decide) B cb xs _ rfl rfl h3 hbase (by omega) ?_))
          intro B1 c1 w4 h4 g4 _
          have b4 := below_grown b3 g4 h3 (Nat.le_refl _)
          clear h3 b3 g4 hbase
          go_wp2_with fail
          go_roundg (gk - 1)
          case measure => omega
          case rel => exact ⟨t + 1, B1, c1, by simp, by omega, by omega, by rw [ht2.out]; simp, by rw [ht2.out, hsn.out], by rw [ht2.out]; exact h4, b4⟩
        · have t1 : ¬ (t : Int) < (l.length : Int) := by omega
          have htk : (r20 l).take t = r20 l := List.take_of_length_le (by simp [r20]; omega)
          have hrl := Lib.hid (show (r20 l).length = l.length by simp [r20])
          have hrb := Lib.hid (r20_bd (l := l))
          rw [htk] at hb h3 ⊢
          have hb2 : -((l.length : Int) * 1048576) ≤ sumI (r20 l) ∧ sumI (r20 l) ≤ (l.length : Int) * 1048576 := by rw [show l.length = t by omega]; exact hb
          have hbest := fun o' k' => best (r20 l) o' k'
          rw [hrl.out] at hbest
          generalize r20 l = xs at *
          have hM := mean_ok (sumI xs) (l.length : Int) 1048576 (by omega) (by omega) hb2.1 hb2.2 (by omega) (by omega)
          have hMC := fun w => Mean_calls (sumI xs) (l.length : Int) w (by omega) (by omega) (by omega)
          rw [hM.1] at hMC
          generalize (meanI (sumI xs) (l.length : Int)).1 = k at *
          obtain ⟨_, k1, k2, k3, k4⟩ := hM
          have hfin := fun o' => hbest o' k k1 (by omega)
          clear hbest hb hb2 htk k1 k2 hlen2
          generalize hS2 : sumI xs = S2 at *
          go_wp2_with fail
          refine (hMC _).mono ?_
          rintro e w' ⟨rfl, rfl⟩
          have o1 := Int.tmod_lt_of_pos o (show (0 : Int) < 1048576 by decide)
          have o2 := Int.tmod_lt_of_pos (-o) (show (0 : Int) < 1048576 by decide)
          rw [Int.neg_tmod] at o2
          generalize hoo : o.tmod 1048576 = oo at *
          go_wp2_with fail
          have s3 := OwnI.sl h3
          go_loopg [15, 16, 17, 18, 19] (l.length + 1) (fun gk a b i u18 u19 w' => ∃ t : Nat, i = .int .i64 (t : Int) ∧ t ≤ l.length ∧ l.length < t + gk ∧ a = .int .i64 (sqs (xs.take t) k) ∧ b = .int .i64 (sqs (xs.take t) oo) ∧ Below wr.heap.size wr w')
          case atStart => exact ⟨0, rfl, by omega, by omega, rfl, rfl, Below.refl _ _⟩
          case round =>
            obtain ⟨t, rfl, ht3, hg3, rfl, rfl, hb3⟩ := hrel
            have hxl := hrl.out
            have qa := sqs_bd (xs.take t) k 4194304 (fun v hv => by have := hrb.out v (List.mem_of_mem_take hv); omega)
            have qb := sqs_bd (xs.take t) oo 4194304 (fun v hv => by have := hrb.out v (List.mem_of_mem_take hv); omega)
            have htl : (xs.take t).length = t := by rw [List.length_take]; omega
            rw [htl] at qa qb
            by_cases hlt3 : t < l.length
            · have t3 : (t : Int) < (xs.length : Int) := by omega
              obtain ⟨ax, rfl, hcx⟩ := (s3.below hb3).get t (by omega)
              have hvm := hrb.out (xs.getD t 0) (by rw [List.getD_eq_getElem?_getD, List.getElem?_eq_getElem (by omega)]; exact List.getElem_mem _)
              have sk := Lib.hid (show sqs (xs.take (t + 1)) k = sqs (xs.take t) k + (xs.getD t 0 - k) * (xs.getD t 0 - k) by rw [List.take_add_one, List.getElem?_eq_getElem (by omega), List.getD_eq_getElem?_getD, List.getElem?_eq_getElem (by omega)]; exact sqs_snoc _ _ _)
              have so := Lib.hid (show sqs (xs.take (t + 1)) oo = sqs (xs.take t) oo + (xs.getD t 0 - oo) * (xs.getD t 0 - oo) by rw [List.take_add_one, List.getElem?_eq_getElem (by omega), List.getD_eq_getElem?_getD, List.getElem?_eq_getElem (by omega)]; exact sqs_snoc _ _ _)
              have z1 := sq_bd (xs.getD t 0) k 4194304 (by omega)
              have z2 := sq_bd (xs.getD t 0) oo 4194304 (by omega)
              generalize xs.getD t 0 = v at *
              generalize sqs (xs.take t) k = SA at *
              generalize sqs (xs.take t) oo = SB at *
              clear hxl htl
              go_wp2_with fail
              go_quiet (fail)
              go_wp2_with fail
              go_roundg (gk - 1)
              case measure => omega
              case rel => exact ⟨t + 1, by simp, by omega, by omega, by rw [sk.out], by rw [so.out], below_trans hb3 (below_drewN (Below.refl _ _) _)⟩
            · have t3 : ¬ (t : Int) < (xs.length : Int) := by omega
              have hx2 : xs.take t = xs := List.take_of_length_le (by omega)
              have hle := hfin oo
              rw [hx2] at *
              clear hxl htl hx2
              go_wp2_with fail
              go_ret
              exact ⟨rfl, below_trans b3 hb3⟩
set_option maxRecDepth 100000 in
theorem RootBest_row (L : Option Addr) (c : Nat) (l : List Int) (o : Int) (w : World) (hL : SlI w .i32 L c l) (hl : ∀ n ∈ l, (Lit.int .i32 n).wf = true) (_sl : l.length * 4 ≤ 140737488351232) (ho : (Lit.int .i32 o).wf = true) :
    Calls Try.prog 4 #[.slice L l.length c, .int .i32 o] w fun e w' => e = .returned (.bool true) ∧ Below w.heap.size w w' := by
  have hlen := hL.len
  by_cases h1 : l.length < 1
  · have i1 : (l.length : Int) < 1 := by omega
    go_enter Try.func4, Try.ntmps4
    go_wp2_with fail
    refine (lives_calls _).mono ?_
    rintro e w1 ⟨rfl, rfl⟩
    go_wp2_with fail
    go_ret
    exact ⟨rfl, Below.refl _ _⟩
  · by_cases h2 : l.length > 60
    · have i1 : ¬ (l.length : Int) < 1 := by omega
      have i2 : (l.length : Int) > 60 := by omega
      go_enter Try.func4, Try.ntmps4
      go_wp2_with fail
      refine (lives_calls _).mono ?_
      rintro e w1 ⟨rfl, rfl⟩
      go_wp2_with fail
      go_ret
      exact ⟨rfl, Below.refl _ _⟩
    · exact best_core L c l o w hL (fun x hx => bdI32 (hl x hx)) (bdI32 ho) (by omega) (by omega)
end Go.Proofs.Yteblielaojmfbaa
