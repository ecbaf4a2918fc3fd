/- The reference's Sum, Least of tables. -/
import Derived.Test.YthpgaggceefamaaRefT1
namespace Go.Proofs.Ythpgaggceefamaa
set_option linter.unusedVariables false
set_option linter.unusedSimpArgs false
open Go.RowKit
theorem RTSum_calls (A B : Option Addr) (c d : Nat) (t : List (List Int)) (code : List Int) (w : World) (h : SlS w .i64 A c t) (k : SlI w .u8 B d code) (hk : ∀ x ∈ code, 0 ≤ x ∧ x ≤ 255) :
    Calls Try.prog 33 #[.agg #[.slice A t.length c], .slice B code.length d] w fun e w' => e = .returned (.tuple #[.int .i64 (sumT t code).1, .int .i64 (sumT t code).2]) ∧ Below w.heap.size w w' := by
  have hm := h.len
  have km := k.len
  have CC := fun w h => RTCheck_calls A c t w h
  by_cases h1 : ckT t = 0
  · rw [h1] at CC
    by_cases h2 : code.length = t.length
    · have i2 : ((code.length : Int) != (t.length : Int)) = false := by simp [h2]
      have H2 := Lib.hid h2
      have H1 := Lib.hid h1
      have HK := Lib.hid hk
      clear h1 h2 hk
      go_enter Try.func33, Try.ntmps33
      go_wp2_with fail
      refine (CC _ (h.below (below_alloc (Below.refl _ _) _))).mono ?_
      rintro e w1 ⟨rfl, b1⟩
      have hbox := cell_below b1 _ _ (box_cell 35 _)
      have b2 := below_trans (below_alloc (Below.refl _ _) _) b1
      clear b1
      go_wp2_with fail
      go_loopg [7, 8] (code.length + 1) (fun gk n i w' => ∃ j : Nat, i = .int .i64 (j : Int) ∧ n = .int .i64 (sumN t code j) ∧ j ≤ code.length ∧ code.length < j + gk ∧ Hid (∀ p, p < j → code.getD p 0 < ((t.getD p []).length : Int)) ∧ Below w.heap.size w w' ∧ w'.cell? ⟨w.heap.size, 0, none⟩ = some (.slice A t.length c))
      case atStart => exact ⟨0, rfl, rfl, by omega, by omega, (fun _ hh => absurd hh (by omega)), b2, hbox⟩
      case round =>
        clear b2 hbox
        obtain ⟨j, rfl, rfl, hj, hg, HF, b2, hbox⟩ := hrel
        by_cases hlt : j < code.length
        · have j1 : (j : Int) < (code.length : Int) := by omega
          have hlt2 : j < t.length := by rw [← H2.out]; exact hlt
          have j2 : (j : Int) < (t.length : Int) := by omega
          obtain ⟨al, rfl, hc⟩ := (k.below b2).get j hlt
          obtain ⟨at', E, d', rfl, hc2, hs⟩ := (h.below b2).get j hlt2
          have hx := HK.out (code.getD j 0) (by rw [List.getD_eq_getElem?_getD, List.getElem?_eq_getElem hlt]; exact List.getElem_mem hlt)
          by_cases hf : code.getD j 0 < ((t.getD j []).length : Int)
          · have HF2 := Lib.hid (show ∀ p, p < j + 1 → code.getD p 0 < ((t.getD p []).length : Int) from fun p hp => by
              rcases Nat.lt_or_ge p j with h3 | h3
              · exact HF.out p h3
              · obtain rfl : p = j := by omega
                exact hf)
            have bd := sumN_bd H1.out (fun x hx => (HK.out x hx).1) j (by omega) (by omega) HF.out
            have bd2 := sumN_bd H1.out (fun x hx => (HK.out x hx).1) (j + 1) (by omega) (by omega) HF2.out
            have hS := Lib.hid (show sumN t code (j + 1) = sumN t code j + (t.getD j []).getD (code.getD j 0).toNat 0 from rfl)
            rw [hS.out] at bd2
            obtain ⟨ae, rfl, hc3⟩ := hs.get (code.getD j 0).toNat (by omega)
            have tl := hm
            have jl : (j : Int) ≤ 1024 := by have := (ckT_ok H1.out).2.1; omega
            generalize code.getD j 0 = x at *
            generalize (t.getD j []).getD x.toNat 0 = y at *
            generalize (t.getD j []).length = n at *
            generalize sumN t code j = s at *
            go_wp2_with fail
            go_quiet (fail)
            go_wp2_with fail
            go_quiet (fail)
            go_wp2_with fail
            go_roundg (gk - 1)
            case measure => omega
            case rel => exact ⟨j + 1, by simp, by rw [hS.out], by omega, by omega, HF2.out, below_drewN b2 _, cell_below (below_drewN (Below.refl _ _) _) _ _ hbox⟩
          · have H := Lib.hid (show sumT t code = (0, 2) by unfold sumT; rw [if_pos (.inr (.inr fun hh => hf (hh j hlt)))])
            generalize code.getD j 0 = x at *
            generalize (t.getD j []).length = n at *
            go_wp2_with fail
            go_quiet (fail)
            go_wp2_with fail
            go_ret2
            rw [H.out]; exact ⟨rfl, below_drewN b2 _⟩
        · have j1 : ¬ (j : Int) < (code.length : Int) := by omega
          have hjl : j = code.length := by omega
          have H := Lib.hid (show sumT t code = (sumN t code j, 0) by
            unfold sumT
            rw [if_neg, hjl]
            rintro (hh | hh | hh)
            · exact hh H1.out
            · exact hh H2.out
            · exact hh (fun p hp => HF.out p (by omega)))
          clear hjl
          go_wp2_with fail
          go_ret2
          rw [H.out]; exact ⟨rfl, b2⟩
    · have H := Lib.hid (show sumT t code = (0, 2) by unfold sumT; rw [if_pos (.inr (.inl h2))])
      have i2 : ((code.length : Int) != (t.length : Int)) = true := by simp; omega
      clear h1 h2
      go_enter Try.func33, Try.ntmps33
      go_wp2_with fail
      refine (CC _ (h.below (below_alloc (Below.refl _ _) _))).mono ?_
      rintro e w1 ⟨rfl, b1⟩
      have hbox := cell_below b1 _ _ (box_cell 35 _)
      have b2 := below_trans (below_alloc (Below.refl _ _) _) b1
      clear b1
      go_wp2_with fail
      go_ret2
      rw [H.out]; exact ⟨rfl, b2⟩
  · have H := Lib.hid (show sumT t code = (0, 2) by unfold sumT; rw [if_pos (.inl h1)])
    rw [ckT_two h1] at CC
    clear h1
    go_enter Try.func33, Try.ntmps33
    go_wp2_with fail
    refine (CC _ (h.below (below_alloc (Below.refl _ _) _))).mono ?_
    rintro e w1 ⟨rfl, b1⟩
    have b2 := below_trans (below_alloc (Below.refl _ _) _) b1
    clear b1
    go_wp2_with fail
    go_ret2
    rw [H.out]; exact ⟨rfl, b2⟩
theorem RTLeast_calls (A : Option Addr) (c : Nat) (t : List (List Int)) (w : World) (h : SlS w .i64 A c t) :
    Calls Try.prog 34 #[.agg #[.slice A t.length c]] w fun e w' => ∃ A' c', e = .returned (.tuple #[.int .i64 (leastT t).1, .slice A' (leastT t).2.length c']) ∧ OwnI w' w.heap.size 5 .u8 A' c' (leastT t).2 ∧ Below w.heap.size w w' := by
  have hm := h.len
  have CC := fun w h => RTCheck_calls A c t w h
  by_cases h1 : ckT t = 0
  · rw [h1] at CC
    have H1 := Lib.hid h1
    have hl := (ckT_ok h1).2.1
    clear h1
    go_enter Try.func34, Try.ntmps34
    go_wp2_with fail
    refine (CC _ (h.below (below_alloc (Below.refl _ _) _))).mono ?_
    rintro e w1 ⟨rfl, b1⟩
    have hbox := cell_below b1 _ _ (box_cell 35 _)
    have b2 := below_trans (below_alloc (Below.refl _ _) _) b1
    clear b1
    go_wp2_with fail
    go_loopg [4, 5, 6, 7, 8] (t.length + 1) (fun gk n o i u1 u2 w' => ∃ (j : Nat) (A1 : Option Addr) (c1 : Nat), i = .int .i64 (j : Int) ∧ n = .int .i64 (leastN t j) ∧ o = .slice A1 (argT (t.take j)).length c1 ∧ j ≤ t.length ∧ t.length < j + gk ∧ OwnI w' (w.heap.size + 1) 5 .u8 A1 c1 (argT (t.take j)) ∧ Below w.heap.size w w' ∧ w'.cell? ⟨w.heap.size, 0, none⟩ = some (.slice A t.length c) ∧ SlS w' .i64 A c t)
    case atStart => exact ⟨0, none, 0, rfl, rfl, rfl, by omega, by omega, own_nil _ _ _ _, b2, hbox, h.below b2⟩
    case round =>
      clear b2 hbox
      obtain ⟨G, hG⟩ : ∃ G, Hid (G = gk) := ⟨_, Lib.hid rfl⟩
      obtain ⟨j, A1, c1, rfl, rfl, rfl, hj, hg, ho, b2, hbox, hss⟩ := hrel
      by_cases hlt : j < t.length
      · have j1 : (j : Int) < (t.length : Int) := by omega
        obtain ⟨al, E, d, rfl, hc, hs⟩ := hss.get j hlt
        have hr := (ckT_ok H1.out).2.2 j hlt
        have bd := leastN_bd H1.out j hj
        have bd2 := leastN_bd H1.out (j + 1) hlt
        have hS := Lib.hid (show leastN t (j + 1) = leastN t j + minN (t.getD j []) ((t.getD j []).length - 1) from rfl)
        have hT := Lib.hid (argT_take hlt)
        rw [hS.out] at bd2
        have hal : (argT (t.take j)).length ≤ 1024 := by unfold argT; simp; omega
        have hr1 := hr.1
        have hr2 := hr.2.1
        have HM := Lib.hid (fun s => argN_min (t.getD j []) s)
        have HS := Lib.hid (fun s => show argN (t.getD j []) (s + 1) = if (t.getD j []).getD (s + 1) 0 < (t.getD j []).getD (argN (t.getD j []) s) 0 then s + 1 else argN (t.getD j []) s from rfl)
        have HLE := Lib.hid (fun s => argN_le (t.getD j []) s)
        clear hr
        generalize t.getD j [] = r at *
        generalize argT (t.take j) = o at *
        generalize leastN t j = sm at *
        go_wp2_with fail
        go_loopg [7, 8] (r.length + 1) (fun gk bst i w' => ∃ s : Nat, i = .int .i64 ((s : Int) + 1) ∧ bst = .int .i64 ((argN r s : Nat) : Int) ∧ s + 1 ≤ r.length ∧ r.length < s + 1 + gk ∧ Below wr.heap.size wr w')
        case atStart => exact ⟨0, by simp, rfl, by omega, by omega, Below.refl _ _⟩
        case round =>
          obtain ⟨s, rfl, rfl, hs2, hg2, bz⟩ := hrel
          have hbox2 := cell_below bz _ _ hbox
          have hc2 := cell_below bz _ _ hc
          have ha := HLE.out s
          obtain ⟨ad, rfl, hca⟩ := (hs.below bz).get (argN r s) (by omega)
          by_cases hlt2 : s + 1 < r.length
          · have k2 : (s : Int) + 1 < (r.length : Int) := by omega
            have k3 : (0 : Int) ≤ (s : Int) + 1 := by omega
            have k4 : ((argN r s : Nat) : Int) < (r.length : Int) := by omega
            obtain ⟨ad', had, hcb⟩ := (hs.below bz).get (s + 1) hlt2
            obtain rfl : ad = ad' := Option.some.inj had
            rw [show ad.add (s + 1) = ⟨ad.block, ad.off + (s + 1), none⟩ from by unfold Addr.add; simp] at hcb
            have e1 : ((s : Int) + 1).toNat = s + 1 := by omega
            have hS2 := HS.out s
            by_cases hcmp : r.getD (s + 1) 0 < r.getD (argN r s) 0
            · rw [if_pos hcmp] at hS2
              have HS2 := Lib.hid hS2
              clear hS2
              generalize r.getD (s + 1) 0 = v at *
              generalize r.getD (argN r s) 0 = v' at *
              generalize argN r s = a at *
              go_wp2_with fail
              go_quiet (fail)
              go_wp2_with fail
              go_roundg (gk - 1)
              case measure => omega
              case rel => exact ⟨s + 1, by simp, by rw [HS2.out]; simp, by omega, by omega, below_drewN bz _⟩
            · rw [if_neg hcmp] at hS2
              have HS2 := Lib.hid hS2
              clear hS2
              generalize r.getD (s + 1) 0 = v at *
              generalize r.getD (argN r s) 0 = v' at *
              generalize argN r s = a at *
              go_wp2_with fail
              go_quiet (fail)
              go_wp2_with fail
              go_roundg (gk - 1)
              case measure => omega
              case rel => exact ⟨s + 1, by simp, by rw [HS2.out], by omega, by omega, below_drewN bz _⟩
          · obtain rfl : s = r.length - 1 := by omega
            have k2 : ¬ ((r.length - 1 : Nat) : Int) + 1 < (r.length : Int) := by omega
            have hmn := HM.out (r.length - 1)
            have k4 : ((argN r (r.length - 1) : Nat) : Int) < (r.length : Int) := by omega
            rw [hmn] at hca
            have ho2 := own_below ho bz
            have b3 := below_trans b2 bz
            have hss2 := hss.below bz
            generalize argN r (r.length - 1) = a at *
            generalize minN r (r.length - 1) = m at *
            generalize r.length - 1 = r1 at *
            have a0 : (0 : Int) ≤ (a : Int) ∧ (a : Int) ≤ 255 := by omega
            have lt := World.block_lt_of_cell? _ _ hbox2
            have lt2 := lt
            simp only at lt2
            have ho2s := ho2
            clear hmn ho b2 hbox hc hs hss bz
            go_wp2_with (at_builtin; refine app_one (w.heap.size + 1) rfl _ _ 26 5 .u8 1 rfl Try.underlying26 (by kernel_rfl) (by decide) A1 c1 o (a : Int) rfl rfl ho2 (by omega) (by omega) ?_)
            intro B1 d1 w3 o3 hg3 _
            have b4 := below_grown b3 hg3 ho2 (by omega)
            have hbox3 := (hg3.cell_far _ lt (fun hh => by have := own_base ho2 _ hh.symm; simp only at this; omega)).trans hbox2
            have HL2 := Lib.hid (show (argT (t.take (j + 1))).length = o.length + 1 by rw [hT.out]; simp)
            rw [← hT.out] at o3
            have hss3 := h.below b4
            clear hg3 ho2 ho2s b3 hbox2 hss2 hc2
            go_wp2_with fail
            go_roundg (G - 1)
            case measure => have := hG.out; omega
            case rel => exact ⟨j + 1, B1, d1, by simp, by rw [hS.out], by rw [HL2.out], by omega, by have := hG.out; omega, o3, b4, hbox3, hss3⟩
      · have j1 : ¬ (j : Int) < (t.length : Int) := by omega
        obtain rfl : j = t.length := by omega
        rw [List.take_length] at ho
        have H := Lib.hid (show leastT t = (leastN t t.length, argT t) by unfold leastT; rw [if_neg (by rw [H1.out]; decide)])
        rw [List.take_length]
        go_wp2_with fail
        go_ret2
        rw [H.out]; exact ⟨A1, c1, rfl, own_mono ho (by omega), b2⟩
  · have H := Lib.hid (show leastT t = (0, []) by unfold leastT; rw [if_pos h1])
    rw [ckT_two h1] at CC
    clear h1
    go_enter Try.func34, Try.ntmps34
    go_wp2_with fail
    refine (CC _ (h.below (below_alloc (Below.refl _ _) _))).mono ?_
    rintro e w1 ⟨rfl, b1⟩
    have b2 := below_trans (below_alloc (Below.refl _ _) _) b1
    clear b1
    go_wp2_with fail
    go_ret2
    rw [H.out]; exact ⟨none, 0, rfl, own_nil _ _ _ _, b2⟩
end Go.Proofs.Ythpgaggceefamaa
