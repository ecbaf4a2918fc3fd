/- The reference's Decode, of a valid book and a code that fits. -/
import Derived.Test.YthpgaggceefamaaRefM1
namespace Go.Proofs.Ythpgaggceefamaa
set_option linter.unusedVariables false
set_option linter.unusedSimpArgs false
open Go.RowKit
def decN (b : List (List (List Int))) (code : List Int) : Nat → List Int
  | 0 => []
  | j + 1 => decN b code j ++ (b.getD j []).getD (code.getD j 0).toNat []
theorem decN_length {b : List (List (List Int))} {code : List Int} (hck : ckB b = 0) (hf : ∀ p, p < b.length → 0 ≤ code.getD p 0 ∧ code.getD p 0 < ((b.getD p []).length : Int)) (j : Nat) (hj : j ≤ b.length) : (decN b code j).length = j * wdB b := by
  induction j with
  | zero => simp [decN]
  | succ j ih =>
    have h := hf j (by omega)
    have h2 := ((ckB_ok hck).2.2.2.2.2.2.2 j (by omega)).2 (code.getD j 0).toNat (by omega)
    unfold decN
    rw [List.length_append, ih (by omega), h2.1, Nat.add_mul, Nat.one_mul]
set_option maxHeartbeats 1000000 in
theorem RDecode_calls (A B : Option Addr) (c d : Nat) (b : List (List (List Int))) (code : List Int) (w : World) (h : SlB w .i32 A c b) (k : SlI w .u8 B d code) (hS : shortB b) (hck : ckB b = 0) (hl : code.length = b.length) (hf : ∀ p, p < b.length → 0 ≤ code.getD p 0 ∧ code.getD p 0 < ((b.getD p []).length : Int)) :
    Calls Try.prog 18 #[.agg #[.slice A b.length c], .slice B code.length d] w fun e w' => ∃ A' c', e = .returned (.tuple #[.slice A' (decN b code b.length).length c', .int .i64 0]) ∧ OwnI w' w.heap.size 21 .i32 A' c' (decN b code b.length) ∧ Below w.heap.size w w' := by
  have hm := h.len
  have km := k.len
  have hmix : Try.prog.follows .mixedOrders = true := by kernel_rfl
  have b1 := below_alloc (Below.refl w.heap.size w) (.cells #[.slice A b.length c] 24)
  have hbox := box_cell (w := w) 24 (.slice A b.length c)
  have CB := RBCheck_calls A c b _ (h.below b1) hS
  rw [hck] at CB
  obtain ⟨l1, l2, l3, l4, l5, l6, l7, l8⟩ := ckB_ok hck
  have DL := Lib.hid (fun j hj => decN_length hck hf j hj)
  have HF := Lib.hid hf
  have L5 := Lib.hid l5
  have HP := Lib.hid (fun j hj => show (b.getD j []).length ≤ 256 from by rw [(l8 j hj).1]; exact l3)
  have HL := Lib.hid hl
  have i2 : ((code.length : Int) != (b.length : Int)) = false := by simp [hl]
  clear hf hck l5 l8 hS hl
  go_enter Try.func18, Try.ntmps18
  go_wp2_with fail
  refine CB.mono ?_
  rintro e w1 ⟨rfl, b2⟩
  have bt := below_trans b1 b2
  replace hbox := cell_below b2 _ _ hbox
  clear b1 b2 CB
  have hsz := World.block_lt_of_cell? _ _ hbox
  simp only at hsz
  go_wp2_with fail
  go_loopg [7, 8] (code.length + 1) (fun gk o i w' => ∃ (j : Nat) (A1 : Option Addr) (c1 : Nat), i = .int .i64 (j : Int) ∧ o = .slice A1 (decN b code j).length c1 ∧ j ≤ code.length ∧ code.length < j + gk ∧ OwnI w' (w.heap.size + 1) 21 .i32 A1 c1 (decN b code j) ∧ Below w.heap.size w w' ∧ w'.cell? ⟨w.heap.size, 0, none⟩ = some (.slice A b.length c))
  case atStart => exact ⟨0, none, 0, rfl, rfl, by omega, by omega, own_nil _ _ _ _, bt, hbox⟩
  case round =>
    clear bt hbox hsz
    obtain ⟨j, A1, c1, rfl, rfl, hj, hg, ho, bw, hbx⟩ := hrel
    by_cases hlt : j < code.length
    · have hltb : j < b.length := by have := HL.out; omega
      have i1 : (j : Int) < (code.length : Int) := by omega
      have i3 : (j : Int) < (b.length : Int) := by omega
      obtain ⟨ac, rfl, hcc0⟩ := k.get j hlt
      obtain ⟨ad, E, e, rfl, hx0, hxs⟩ := h.get j hltb
      have hcc := cell_below bw _ _ hcc0
      have hx := cell_below bw _ _ hx0
      obtain ⟨hf1, hf2⟩ := HF.out j hltb
      have hp256 := HP.out j hltb
      have hx255 : code.getD j 0 ≤ 255 := by omega
      have hs1 := Lib.hid (show decN b code (j + 1) = decN b code j ++ (b.getD j []).getD (code.getD j 0).toNat [] from rfl)
      have dl := DL.out (j + 1) (by omega)
      obtain ⟨ae, F, f, rfl, hv0, hvs⟩ := hxs.get (code.getD j 0).toNat (by omega)
      have hv := cell_below bw _ _ hv0
      have hmul : (j + 1) * wdB b ≤ 1024 := Nat.le_trans (Nat.mul_le_mul_right _ (show j + 1 ≤ b.length by omega)) L5.out
      rw [hs1.out, List.length_append] at dl
      generalize code.getD j 0 = x at *
      generalize b.getD j [] = p at *
      generalize p.getD x.toNat [] = wd at *
      generalize decN b code j = dn at *
      have hdl : dn.length + wd.length ≤ 1024 := by omega
      clear dl hmul
      go_wp2_with fail
      go_quiet (fail)
      go_wp2_with fail
      refine region_L (oneQ 99 (fun _ => True) (fun X => X.cell? ⟨w.heap.size, 0, none⟩ = some (.slice (some ad) b.length c) ∧ X.cell? (ad.add j) = some (.slice (some ae) p.length e) ∧ X.cell? (ac.add j) = some (.int .u8 x) ∧ X.cell? (ae.add x.toNat) = some (.slice F wd.length f))) hmix ?_
      generalize hwq : World.drew _ = wq
      have bd : Below wr.heap.size wr wq := by rw [← hwq]; exact (below_drewN (Below.refl _ _) _).drew
      have hS : oneQ 99 (fun _ => True) (fun X => X.cell? ⟨w.heap.size, 0, none⟩ = some (.slice (some ad) b.length c) ∧ X.cell? (ad.add j) = some (.slice (some ae) p.length e) ∧ X.cell? (ac.add j) = some (.int .u8 x) ∧ X.cell? (ae.add x.toNat) = some (.slice F wd.length f)) (Array.replicate 14 false) wq := ⟨fun _ => trivial, cell_below bd _ _ hbx, cell_below bd _ _ hx, cell_below bd _ _ hcc, cell_below bd _ _ hv⟩
      clear hwq
      refine anyL_take (fun _ => True) [] (i := 0) (v := ?_) rfl (by kernel_rfl) (by kernel_rfl) (by kernel_rfl) (fun _ _ _ h => h) (by kernel_rfl) (one_ind (i := 0) (by decide)) (fun _ _ _ _ => trivial) (Or.inl ⟨by rfl, ?_⟩) hS ?_
      rotate_left
      · intro X hX
        clear hX
        go_simp
        try with_reducible rfl
      try simp only [List.getElem_toArray, List.getElem_cons_zero, List.getElem_cons_succ]
      simp only [Act.put, List.setIfInBounds_toArray, List.set_cons_zero, List.set_cons_succ]
      replace hS := (one_ind (i := 0) (by decide) _ _).2 hS
      refine anyL_take (fun _ => True) [] (i := 1) (v := ?_) rfl (by kernel_rfl) (by kernel_rfl) (by kernel_rfl) (fun _ _ _ h => h) (by kernel_rfl) (one_ind (i := 1) (by decide)) (fun _ _ _ _ => trivial) (Or.inl ⟨by rfl, ?_⟩) hS ?_
      rotate_left
      · intro X hX
        clear hX
        go_simp
        try with_reducible rfl
      try simp only [List.getElem_toArray, List.getElem_cons_zero, List.getElem_cons_succ]
      simp only [Act.put, List.setIfInBounds_toArray, List.set_cons_zero, List.set_cons_succ]
      replace hS := (one_ind (i := 1) (by decide) _ _).2 hS
      refine anyL_take (fun X => X.cell? ⟨w.heap.size, 0, none⟩ = some (.slice (some ad) b.length c) ∧ X.cell? (ad.add j) = some (.slice (some ae) p.length e) ∧ X.cell? (ac.add j) = some (.int .u8 x) ∧ X.cell? (ae.add x.toNat) = some (.slice F wd.length f)) [] (i := 2) (v := ?_) rfl (by kernel_rfl) (by kernel_rfl) (by kernel_rfl) (fun _ _ _ h => h) (by kernel_rfl) (one_ind (i := 2) (by decide)) (fun L X h1 h2 => h2.2) (Or.inl ⟨by rfl, ?_⟩) hS ?_
      rotate_left
      · intro X hX
        obtain ⟨g0, g1, g2, g3⟩ := hX
        go_simp
        try with_reducible rfl
      try simp only [List.getElem_toArray, List.getElem_cons_zero, List.getElem_cons_succ]
      simp only [Act.put, List.setIfInBounds_toArray, List.set_cons_zero, List.set_cons_succ]
      replace hS := (one_ind (i := 2) (by decide) _ _).2 hS
      refine anyL_take (fun _ => True) [] (i := 3) (v := ?_) rfl (by kernel_rfl) (by kernel_rfl) (by kernel_rfl) (fun _ _ _ h => h) (by kernel_rfl) (one_ind (i := 3) (by decide)) (fun _ _ _ _ => trivial) (Or.inl ⟨by rfl, ?_⟩) hS ?_
      rotate_left
      · intro X hX
        clear hX
        go_simp
        try with_reducible rfl
      try simp only [List.getElem_toArray, List.getElem_cons_zero, List.getElem_cons_succ]
      simp only [Act.put, List.setIfInBounds_toArray, List.set_cons_zero, List.set_cons_succ]
      replace hS := (one_ind (i := 3) (by decide) _ _).2 hS
      refine anyL_take (fun _ => True) [] (i := 4) (v := ?_) rfl (by kernel_rfl) (by kernel_rfl) (by kernel_rfl) (fun _ _ _ h => h) (by kernel_rfl) (one_ind (i := 4) (by decide)) (fun _ _ _ _ => trivial) (Or.inl ⟨by rfl, ?_⟩) hS ?_
      rotate_left
      · intro X hX
        clear hX
        go_simp
        try with_reducible rfl
      try simp only [List.getElem_toArray, List.getElem_cons_zero, List.getElem_cons_succ]
      simp only [Act.put, List.setIfInBounds_toArray, List.set_cons_zero, List.set_cons_succ]
      replace hS := (one_ind (i := 4) (by decide) _ _).2 hS
      refine anyL_take (fun X => X.cell? ⟨w.heap.size, 0, none⟩ = some (.slice (some ad) b.length c) ∧ X.cell? (ad.add j) = some (.slice (some ae) p.length e) ∧ X.cell? (ac.add j) = some (.int .u8 x) ∧ X.cell? (ae.add x.toNat) = some (.slice F wd.length f)) [] (i := 5) (v := ?_) rfl (by kernel_rfl) (by kernel_rfl) (by kernel_rfl) (fun _ _ _ h => h) (by kernel_rfl) (one_ind (i := 5) (by decide)) (fun L X h1 h2 => h2.2) (Or.inl ⟨by rfl, ?_⟩) hS ?_
      rotate_left
      · intro X hX
        obtain ⟨g0, g1, g2, g3⟩ := hX
        go_simp
        try with_reducible rfl
      try simp only [List.getElem_toArray, List.getElem_cons_zero, List.getElem_cons_succ]
      simp only [Act.put, List.setIfInBounds_toArray, List.set_cons_zero, List.set_cons_succ]
      replace hS := (one_ind (i := 5) (by decide) _ _).2 hS
      refine anyL_take (fun _ => True) [] (i := 6) (v := ?_) rfl (by kernel_rfl) (by kernel_rfl) (by kernel_rfl) (fun _ _ _ h => h) (by kernel_rfl) (one_ind (i := 6) (by decide)) (fun _ _ _ _ => trivial) (Or.inl ⟨by rfl, ?_⟩) hS ?_
      rotate_left
      · intro X hX
        clear hX
        go_simp
        try with_reducible rfl
      try simp only [List.getElem_toArray, List.getElem_cons_zero, List.getElem_cons_succ]
      simp only [Act.put, List.setIfInBounds_toArray, List.set_cons_zero, List.set_cons_succ]
      replace hS := (one_ind (i := 6) (by decide) _ _).2 hS
      refine anyL_take (fun _ => True) [] (i := 7) (v := ?_) rfl (by kernel_rfl) (by kernel_rfl) (by kernel_rfl) (fun _ _ _ h => h) (by kernel_rfl) (one_ind (i := 7) (by decide)) (fun _ _ _ _ => trivial) (Or.inl ⟨by rfl, ?_⟩) hS ?_
      rotate_left
      · intro X hX
        clear hX
        go_simp
        try with_reducible rfl
      try simp only [List.getElem_toArray, List.getElem_cons_zero, List.getElem_cons_succ]
      simp only [Act.put, List.setIfInBounds_toArray, List.set_cons_zero, List.set_cons_succ]
      replace hS := (one_ind (i := 7) (by decide) _ _).2 hS
      refine anyL_take (fun _ => True) [] (i := 8) (v := ?_) rfl (by kernel_rfl) (by kernel_rfl) (by kernel_rfl) (fun _ _ _ h => h) (by kernel_rfl) (one_ind (i := 8) (by decide)) (fun _ _ _ _ => trivial) (Or.inl ⟨by rfl, ?_⟩) hS ?_
      rotate_left
      · intro X hX
        clear hX
        go_simp
        try with_reducible rfl
      try simp only [List.getElem_toArray, List.getElem_cons_zero, List.getElem_cons_succ]
      simp only [Act.put, List.setIfInBounds_toArray, List.set_cons_zero, List.set_cons_succ]
      replace hS := (one_ind (i := 8) (by decide) _ _).2 hS
      refine anyL_take (fun X => X.cell? ⟨w.heap.size, 0, none⟩ = some (.slice (some ad) b.length c) ∧ X.cell? (ad.add j) = some (.slice (some ae) p.length e) ∧ X.cell? (ac.add j) = some (.int .u8 x) ∧ X.cell? (ae.add x.toNat) = some (.slice F wd.length f)) [] (i := 9) (v := ?_) rfl (by kernel_rfl) (by kernel_rfl) (by kernel_rfl) (fun _ _ _ h => h) (by kernel_rfl) (one_ind (i := 9) (by decide)) (fun L X h1 h2 => h2.2) (Or.inl ⟨by rfl, ?_⟩) hS ?_
      rotate_left
      · intro X hX
        obtain ⟨g0, g1, g2, g3⟩ := hX
        go_simp
        try with_reducible rfl
      try simp only [List.getElem_toArray, List.getElem_cons_zero, List.getElem_cons_succ]
      simp only [Act.put, List.setIfInBounds_toArray, List.set_cons_zero, List.set_cons_succ]
      replace hS := (one_ind (i := 9) (by decide) _ _).2 hS
      refine anyL_take (fun _ => True) [] (i := 10) (v := ?_) rfl (by kernel_rfl) (by kernel_rfl) (by kernel_rfl) (fun _ _ _ h => h) (by kernel_rfl) (one_ind (i := 10) (by decide)) (fun _ _ _ _ => trivial) (Or.inl ⟨by rfl, ?_⟩) hS ?_
      rotate_left
      · intro X hX
        clear hX
        go_simp
        try with_reducible rfl
      try simp only [List.getElem_toArray, List.getElem_cons_zero, List.getElem_cons_succ]
      simp only [Act.put, List.setIfInBounds_toArray, List.set_cons_zero, List.set_cons_succ]
      replace hS := (one_ind (i := 10) (by decide) _ _).2 hS
      refine anyL_take (fun X => X.cell? ⟨w.heap.size, 0, none⟩ = some (.slice (some ad) b.length c) ∧ X.cell? (ad.add j) = some (.slice (some ae) p.length e) ∧ X.cell? (ac.add j) = some (.int .u8 x) ∧ X.cell? (ae.add x.toNat) = some (.slice F wd.length f)) [] (i := 11) (v := ?_) rfl (by kernel_rfl) (by kernel_rfl) (by kernel_rfl) (fun _ _ _ h => h) (by kernel_rfl) (one_ind (i := 11) (by decide)) (fun L X h1 h2 => h2.2) (Or.inl ⟨by rfl, ?_⟩) hS ?_
      rotate_left
      · intro X hX
        obtain ⟨g0, g1, g2, g3⟩ := hX
        go_simp
        try with_reducible rfl
      try simp only [List.getElem_toArray, List.getElem_cons_zero, List.getElem_cons_succ]
      simp only [Act.put, List.setIfInBounds_toArray, List.set_cons_zero, List.set_cons_succ]
      replace hS := (one_ind (i := 11) (by decide) _ _).2 hS

      have ho2 := own_below ho bd
      have hbx2 := cell_below bd _ _ hbx
      have lt := World.block_lt_of_cell? _ _ hbx2
      have lt2 := lt
      simp only at lt2
      refine anyL_step (i := 12) (by kernel_rfl) rfl (by rfl) (fun K hK => ?_)
      refine wp_app_row (w.heap.size + 1) _ _ 25 21 .i32 4 rfl Try.underlying25 (by kernel_rfl) (by decide) A1 c1 dn wd F f rfl rfl ho2 (hvs.below (below_trans bw bd)).rd (by omega) (by omega) ?_
      intro B1 d1 w10 o3 hg3 _ _
      have bw2 := below_grown (below_trans bw bd) hg3 ho2 (by omega)
      have hbx3 := (hg3.cell_far _ lt (fun hh => by have := own_base ho2 _ hh.symm; simp only at this; omega)).trans hbx2
      have HL2 := Lib.hid (show (decN b code (j + 1)).length = dn.length + wd.length by rw [hs1.out]; simp)
      rw [← hs1.out] at o3
      refine hK.out _ _ ⟨fun _ => trivial, hbx3, cell_below bw2 _ _ hx0, cell_below bw2 _ _ hcc0, cell_below bw2 _ _ hv0⟩ ?_
      clear hK K hg3 hS ho2
      try simp only [Act.put, List.setIfInBounds_toArray, List.set_cons_zero, List.set_cons_succ]
      refine anyL_step (i := 13) (by kernel_rfl) rfl (by rfl) (fun K hK => ?_)
      go_simp
      refine hK.out _ _ ⟨fun _ => trivial, hbx3, cell_below bw2 _ _ hx0, cell_below bw2 _ _ hcc0, cell_below bw2 _ _ hv0⟩ ?_
      clear hK K
      refine anyL_done (by kernel_rfl) ?_ _
      go_wp2_with fail
      go_roundg (gk - 1)
      case measure => omega
      case rel => exact ⟨j + 1, B1, d1, by simp, by rw [HL2.out], by omega, by omega, o3, bw2, hbx3⟩
    · have i1 : ¬ (j : Int) < (code.length : Int) := by omega
      obtain rfl : j = b.length := by have := HL.out; omega
      go_wp2_with fail
      go_ret2
      exact ⟨A1, c1, rfl, own_mono ho (by omega), bw⟩
end Go.Proofs.Ythpgaggceefamaa
