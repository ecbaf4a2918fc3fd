import Derived.Test.YteajcneojclddaaSumLaws5
namespace Go.Proofs.Yteajcneojclddaa
set_option linter.unusedVariables false
set_option linter.unusedSimpArgs false
open Go.RowKit
theorem Of_k (A : Option Addr) (c n : Nat) (b : List Int) (v : Int) (w : World) (h : SlI w .u8 A c b) (hb : Bytes b) (hn : Hid (b.length = n)) (hv : Hid (uv (more 0#32 b) = v)) :
    Calls Try.prog 12 #[.slice A n c] w fun e w' => e = .returned (.int .u32 v) ∧ Below w.heap.size w w' := Of_n A c n b w h hb hn v hv
set_option maxHeartbeats 1000000 in
theorem SumNames_calls (w : World) : Calls Try.prog 6 #[] w fun e w' => e = .returned (.bool true) ∧ Below w.heap.size w w' := by
  have V0 := Lib.hid (show uv (more 0#32 (List.replicate 32 0)) = 2324772522 by decide +kernel)
  have V1 := Lib.hid (show uv (more 0#32 (List.replicate 32 255)) = 1655221059 by decide +kernel)
  have V2 := Lib.hid (show uv (more 0#32 ((List.range 32).map fun (i : Nat) => (i : Int))) = 1188919630 by decide +kernel)
  have L0 : Hid ((List.replicate 32 (0 : Int)).length = 32) := List.length_replicate
  have L1 : Hid ((List.replicate 32 (255 : Int)).length = 32) := List.length_replicate
  have L2 : Hid (((List.range 32).map fun (i : Nat) => (i : Int)).length = 32) := by show _ = _; simp
  have B0 : Bytes (List.replicate 32 0) := fun x hx => by rw [List.eq_of_mem_replicate hx]; decide
  have B1 : Bytes (List.replicate 32 255) := fun x hx => by rw [List.eq_of_mem_replicate hx]; decide
  have B2 : Bytes ((List.range 32).map fun (i : Nat) => (i : Int)) := fun x hx => by
    obtain ⟨i, hi, rfl⟩ := List.mem_map.1 hx
    have := List.mem_range.1 hi; omega
  obtain ⟨ones, ho⟩ : ∃ o, Hid (List.replicate 32 (255 : Int) = o) := ⟨_, Lib.hid rfl⟩
  obtain ⟨rise, hr⟩ : ∃ o, Hid (((List.range 32).map fun (i : Nat) => (i : Int)) = o) := ⟨_, Lib.hid rfl⟩
  obtain ⟨zs, hz⟩ : ∃ o, Hid (List.replicate 32 (0 : Int) = o) := ⟨_, Lib.hid rfl⟩
  rw [ho.out] at V1 L1 B1
  rw [hr.out] at V2 L2 B2
  rw [hz.out] at V0 L0 B0
  have go : ∀ k, k < 32 → ones.getD k 0 = 255 := fun k hk => by rw [← ho.out, List.getD_eq_getElem?_getD, List.getElem?_replicate, if_pos hk]; rfl
  have gr : ∀ k, k < 32 → rise.getD k 0 = k := fun k hk => by rw [← hr.out, List.getD_eq_getElem?_getD, List.getElem?_map, List.getElem?_range hk]; rfl
  have u5 : uv 5#32 = 5 := by decide
  have u9 : uv 9#32 = 9 := by decide
  have JJ := fun w => u9 ▸ u5 ▸ Join_at 5#32 9#32 5#32 0 w (by decide) (Lib.hid (by decide))
  have NN := fun w => u5 ▸ Noughts_at 5#32 5#32 (-1) w (by decide) (Lib.hid (by decide))
  go_enter Try.func6, Try.ntmps6
  go_wp2_with (refine wp_make rfl _ _ 22 rfl 5 .u8 1 Try.underlying22 (by kernel_rfl) _ _ _ 32 rfl rfl rfl (by omega) (by unfold maxLen; omega) ?_)
  intro w1 h1 b1
  have gw : w.heap.size < w1.heap.size := (h1.lt w.heap.size rfl).2
  replace h1 : OwnI w1 w.heap.size 5 .u8 (some ⟨w.heap.size, 0, none⟩) 32 zs := by rw [← hz.out]; exact h1
  go_wp2_with (refine wp_make rfl _ _ 22 rfl 5 .u8 1 Try.underlying22 (by kernel_rfl) _ _ _ 32 rfl rfl rfl (by omega) (by unfold maxLen; omega) ?_)
  intro w2 h2 b2
  replace h2 : OwnI w2 w1.heap.size 5 .u8 (some ⟨w1.heap.size, 0, none⟩) 32 zs := by rw [← hz.out]; exact h2
  have h1' := own_below h1 b2
  have b02 := below_trans b1 b2
  generalize w1.heap.size = g2 at *
  clear h1 b1 b2
  have HL0 := L0
  go_wp2_with fail
  go_loopg [3] 33 (fun gk i w' => ∃ (j : Nat) (xs ys : List Int), i = .int .i64 (j : Int) ∧ j ≤ 32 ∧ 32 < j + gk ∧ Hid (xs.length = 32 ∧ ∀ k, k < j → xs.getD k 0 = 255) ∧ Hid (ys.length = 32 ∧ ∀ k, k < j → ys.getD k 0 = (k : Int)) ∧ OwnI w' w.heap.size 5 .u8 (some ⟨w.heap.size, 0, none⟩) 32 xs ∧ OwnI w' g2 5 .u8 (some ⟨g2, 0, none⟩) 32 ys ∧ Below w.heap.size w w')
  case atStart => exact ⟨0, zs, zs, rfl, by omega, by omega, ⟨HL0.out, fun k hk => by omega⟩, ⟨HL0.out, fun k hk => by omega⟩, h1', h2, b02⟩
  case round =>
    clear h1' h2 b02
    obtain ⟨j, xs, ys, rfl, hj, hg, hx, hy, h1, h2, b2⟩ := hrel
    by_cases hlt : j < 32
    · have hjl : (j : Int) < 32 := by omega
      obtain ⟨c1, f1⟩ := OwnI.cell h1 j (by have := hx.out.1; omega)
      obtain ⟨c2, f2⟩ := OwnI.cell h2 j (by have := hy.out.1; omega)
      have k1 := OwnI.put h1 j 255
      have k2 := OwnI.put (h2.kept (OwnI.store h1 j 255).2 (.inr (by simp [Value.ownBlock]; omega))) j (j : Int)
      have k3 := k1.kept (OwnI.store (h2.kept (OwnI.store h1 j 255).2 (.inr (by simp [Value.ownBlock]; omega))) j (j : Int)).2 (.inr (by simp [Value.ownBlock]; omega))
      have k4 := (b2.setCell (p := ⟨w.heap.size, j, none⟩) (Nat.le_refl _) (.int .u8 255)).setCell (p := ⟨g2, j, none⟩) (Nat.le_of_lt gw) (.int .u8 (j : Int))
      have HX := Lib.hid (show (xs.set j 255).length = 32 ∧ ∀ k, k < j + 1 → (xs.set j 255).getD k 0 = 255 from ⟨by simpa using hx.out.1, fun k hk => getD_set_lt hx.out.1 hlt (f := fun _ => 255) rfl hx.out.2 hk⟩)
      have HY := Lib.hid (show (ys.set j (j : Int)).length = 32 ∧ ∀ k, k < j + 1 → (ys.set j (j : Int)).getD k 0 = (k : Int) from ⟨by simpa using hy.out.1, fun k hk => getD_set_lt hy.out.1 hlt (f := fun k => (k : Int)) rfl hy.out.2 hk⟩)
      have hne : w.heap.size ≠ g2 := Nat.ne_of_lt gw
      have hne2 : g2 ≠ w.heap.size := Ne.symm hne
      generalize xs.getD j 0 = o1 at c1
      generalize ys.getD j 0 = o2 at c2
      go_wp2_with fail
      go_roundg (gk - 1)
      case measure => omega
      case rel => exact ⟨j + 1, _, _, by simp, by omega, by omega, HX, HY, k3, k2, k4⟩
    · have hjl : ¬ (j : Int) < 32 := by omega
      have hxo : xs = ones := by
        apply List.ext_getElem
        · rw [hx.out.1, L1.out]
        · intro k h1 h2
          have e1 := hx.out.2 k (by have := hx.out.1; omega)
          have e2 := go k (by have := hx.out.1; omega)
          rw [List.getD_eq_getElem?_getD, List.getElem?_eq_getElem h1] at e1
          rw [List.getD_eq_getElem?_getD, List.getElem?_eq_getElem h2] at e2
          simpa using e1.trans e2.symm
      have hyr : ys = rise := by
        apply List.ext_getElem
        · rw [hy.out.1, L2.out]
        · intro k h1 h2
          have e1 := hy.out.2 k (by have := hy.out.1; omega)
          have e2 := gr k (by have := hy.out.1; omega)
          rw [List.getD_eq_getElem?_getD, List.getElem?_eq_getElem h1] at e1
          rw [List.getD_eq_getElem?_getD, List.getElem?_eq_getElem h2] at e2
          simpa using e1.trans e2.symm
      subst hxo
      subst hyr
      clear hx hy go gr hj
      have s1 := OwnI.sl h1
      have s2 := OwnI.sl h2
      clear h1 h2
      go_wp2_with fail
      refine (lives_calls _).mono ?_
      rintro e w3 ⟨rfl, b3⟩
      have b03 := below_trans b2 b3
      have s13 := s1.below b3
      have s23 := s2.below b3
      clear b2 b3 s1 s2
      go_wp2_with (refine wp_make_on (by rfl) _ _ 22 rfl 5 .u8 1 Try.underlying22 (by kernel_rfl) _ _ _ 32 rfl rfl rfl (by omega) (by unfold maxLen; omega) ?_)
      intro w4 h4 b4
      replace h4 : OwnI w4 w3.heap.size 5 .u8 (some ⟨w3.heap.size, 0, none⟩) 32 zs := by rw [← hz.out]; exact h4
      have b04 := below_trans b03 b4
      have s14 := s13.below b4
      have s24 := s23.below b4
      have s4 := OwnI.sl h4
      generalize w3.heap.size = g3 at *
      clear b03 b4 s13 s23 h4
      go_wp2_with fail
      refine (Of_k (some ⟨g3, 0, none⟩) 32 32 zs _ _ s4 B0 L0 V0).mono ?_
      rintro e w5 ⟨rfl, b5⟩
      have b05 := below_trans b04 b5
      have s15 := s14.below b5
      have s25 := s24.below b5
      clear b04 b5 s14 s24 s4
      go_wp2_with fail
      refine (Of_k (some ⟨w.heap.size, 0, none⟩) 32 32 xs _ _ s15 B1 L1 V1).mono ?_
      rintro e w6 ⟨rfl, b6⟩
      have b06 := below_trans b05 b6
      have s26 := s25.below b6
      clear b05 b6 s15 s25
      go_wp2_with fail
      refine (Of_k (some ⟨g2, 0, none⟩) 32 32 ys _ _ s26 B2 L2 V2).mono ?_
      rintro e w7 ⟨rfl, b7⟩
      have b07 := below_trans b06 b7
      clear b06 b7 s26
      go_wp2_with fail
      refine (JJ _).mono ?_
      rintro e w8 ⟨rfl, b8⟩
      have b08 := below_trans b07 b8
      clear b07 b8
      go_wp2_with fail
      refine (NN _).mono ?_
      rintro e w9 ⟨rfl, b9⟩
      go_wp2_with fail
      go_ret
      exact ⟨rfl, below_trans b08 b9⟩
end Go.Proofs.Yteajcneojclddaa
