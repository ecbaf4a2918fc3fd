/- The reference's Encode, of a valid book and a vector that fits. -/
import Derived.Test.YthpgaggceefamaaTabSum
import Derived.Test.YthpgaggceefamaaRefMake
namespace Go.Proofs.Ythpgaggceefamaa
set_option linter.unusedVariables false
set_option linter.unusedSimpArgs false
open Go.RowKit
set_option maxHeartbeats 2000000 in
theorem REncode_calls (A B : Option Addr) (c d : Nat) (b : List (List (List Int))) (r : List Int) (w : World) (h : SlB w .i32 A c b) (k : SlI w .i32 B d r) (hS : shortB b) (h1 : ckB b = 0) (h2 : ckW r = 0) (hrl : r.length = b.length * wdB b) :
    Calls Try.prog 21 #[.agg #[.slice A b.length c], .slice B r.length d] w fun e w' => ∃ A' c', e = .returned (.tuple #[.slice A' b.length c', .int .i64 0]) ∧ OwnI w' w.heap.size 5 .u8 A' c' (argT (tabI b r)) ∧ Below w.heap.size w w' := by
  have hm := h.len
  have km := k.len
  have hmix : Try.prog.follows .mixedOrders = true := by kernel_rfl
  have b1 := below_alloc (Below.refl w.heap.size w) (.cells #[.slice A b.length c] 24)
  have hbox := box_cell (w := w) 24 (.slice A b.length c)
  have CB := RBCheck_calls A c b _ (h.below b1) hS
  have CW := fun w h => RCheckWide_calls B d r w h
  have CD := fun w h => RDim_calls A c b w h hS
  rw [h1] at CB
  rw [h2] at CW
  obtain ⟨l1, l2, l3, l4, l5, l6, l7, l8⟩ := ckB_ok h1
  have l9 := ckW_ok h2
  have hd : dimB b = ((b.length * wdB b : Nat) : Int) := by unfold dimB; rw [if_neg (by rw [h1]; decide)]
  have i3 : ((r.length : Int) != dimB b) = false := by rw [hd, hrl]; simp
  have CUT := fun W hW => Cut_calls B d r b.length (wdB b) W hW hrl l9.1 l9.2.1 l1 l4
  have HRL := Lib.hid hrl
  have L8 := Lib.hid l8
  have L9 := Lib.hid l9
  clear h1 h2 hrl l8 l9 hd hS
  generalize hDD : dimB b = D at *
  clear hDD
  go_enter Try.func21, Try.ntmps21
  go_wp2_with fail
  refine CB.mono ?_
  rintro e w1 ⟨rfl, b2⟩
  have bw1 := below_trans b1 b2
  replace hbox := cell_below b2 _ _ hbox
  clear b1 b2 CB
  go_wp2_with fail
  refine (CW _ (k.below bw1)).mono ?_
  rintro e w2 ⟨rfl, b2⟩
  have bw2 := below_trans bw1 b2
  replace hbox := cell_below b2 _ _ hbox
  clear b2 bw1 CW
  go_wp2_with fail
  refine (CD _ (h.below bw2)).mono ?_
  rintro e w3 ⟨rfl, b2⟩
  have bw3 := below_trans bw2 b2
  replace hbox := cell_below b2 _ _ hbox
  clear b2 bw2 CD
  go_wp2_with fail
  refine (CUT _ (k.below bw3)).mono ?_
  rintro e w4 ⟨Ac, cc, rfl, oc, b2⟩
  have bw4 := below_trans bw3 b2
  replace hbox := cell_below b2 _ _ hbox
  have sc := oc.sl
  clear b2 bw3 CUT oc
  have BW := Lib.hid (fun W (hW : Below w4.heap.size w4 W) => below_trans bw4 hW)
  have SC := Lib.hid (fun W (hW : Below w4.heap.size w4 W) => sc.below hW)
  have ZB := Lib.hid (fun W (hW : Below w4.heap.size w4 W) => cell_below hW _ _ hbox)
  have HTL := Lib.hid (tabI_length b r)
  have gsz := bw4.size
  go_wp2_with fail
  go_loopg [9, 10, 11, 12, 13, 14, 15] (b.length + 1) (fun gk o i u11 u12 u13 u14 u15 w' => ∃ (j : Nat) (A1 : Option Addr) (c1 : Nat), i = .int .i64 (j : Int) ∧ o = .slice A1 j c1 ∧ j ≤ b.length ∧ b.length < j + gk ∧ w'.ownsRow w4.heap.size 5 1 (.slice A1 j c1) j (nums .u8 ((argT (tabI b r)).take j)) ∧ Below w4.heap.size w4 w')
  case atStart => exact ⟨0, none, 0, rfl, rfl, by omega, by omega, own_nil _ _ _ _, Below.refl _ _⟩
  case round =>
    obtain ⟨G, hG⟩ : ∃ G, Hid (G = gk) := ⟨_, Lib.hid rfl⟩
    obtain ⟨Wo, rfl⟩ : ∃ Wo, Wo = wr := ⟨_, rfl⟩
    obtain ⟨j, A1, c1, rfl, rfl, hj, hg, ho, bw⟩ := hrel
    have hbx := ZB.out _ bw
    by_cases hlt : j < b.length
    · have i1 : (j : Int) < (b.length : Int) := by omega
      obtain ⟨ad, E, e, rfl, hx, hxs⟩ := (h.below (BW.out _ bw)).get j hlt
      obtain ⟨ac, Ap, cp, rfl, hcu, hcs⟩ := (SC.out _ bw).get j (by rw [cutL_length]; exact hlt)
      rw [getD_cutL hlt] at hcu hcs
      have hw1 := (L8.out j hlt).1
      have HW2 := Lib.hid (L8.out j hlt).2
      have HPL := Lib.hid (partR_length (p := j) HRL.out hlt)
      have HPM := Lib.hid (fun v (hv : v ∈ partR r (wdB b) j) => L9.out.2.2 v (partR_mem hv))
      have HRJ := Lib.hid (show (tabI b r).getD j [] = rowI (partR r (wdB b) j) (b.getD j []) from by simp [tabI, List.getD_eq_getElem?_getD, hlt])
      have HRG := Lib.hid (fun s (hs : s < (b.getD j []).length) => show (rowI (partR r (wdB b) j) (b.getD j [])).getD s 0 = dsq (partR r (wdB b) j) ((b.getD j []).getD s []) ((b.getD j []).getD s []).length from by
        generalize b.getD j [] = l at *
        simp [rowI, List.getD_eq_getElem?_getD, hs])
      have HRL2 := Lib.hid (show (rowI (partR r (wdB b) j) (b.getD j [])).length = (b.getD j []).length by simp [rowI])
      have HT := Lib.hid (show (argT (tabI b r)).take (j + 1) = (argT (tabI b r)).take j ++ [((argN ((tabI b r).getD j []) (((tabI b r).getD j []).length - 1) : Nat) : Int)] from by
        have hl : j < (argT (tabI b r)).length := by simp [argT, tabI_length]; exact hlt
        rw [List.take_add_one, List.getElem?_eq_getElem hl]
        simp [argT, List.getD_eq_getElem?_getD, show j < (tabI b r).length by rw [tabI_length]; exact hlt])
      rw [HRJ.out, HRL2.out] at HT
      have htl : ((argT (tabI b r)).take j).length = j := by rw [List.length_take]; simp [argT, tabI_length]; omega
      have hp256 : (b.getD j []).length ≤ 256 := by rw [hw1]; exact l3
      have hp1 : 1 ≤ (b.getD j []).length := by rw [hw1]; exact l2
      clear hw1
      generalize partR r (wdB b) j = pr at *
      generalize b.getD j [] = p at *
      generalize (argT (tabI b r)).take j = tk at *
      subst htl
      generalize hjj : tk.length = j at *
      generalize rowI pr p = R at *
      go_wp2_with fail
      go_loopg [11, 12, 13, 14, 15] (p.length + 1) (fun gk best dist i u14 u15 w' => ∃ s : Nat, i = .int .i64 (s : Int) ∧ s ≤ p.length ∧ p.length < s + gk ∧ ((s = 0 ∧ best = .int .i64 0 ∧ dist = .int .i64 0) ∨ (∃ q, s = q + 1 ∧ best = .int .i64 ((argN R q : Nat) : Int) ∧ dist = .int .i64 (minN R q))) ∧ Below Wo.heap.size Wo w')
      case atStart => exact ⟨0, rfl, by omega, by omega, .inl ⟨rfl, rfl, rfl⟩, Below.refl _ _⟩
      case round =>
        obtain ⟨s, rfl, hs, hg2, hcase, bz⟩ := hrel
        have z0 := cell_below bz _ _ hbx
        have z1 := cell_below bz _ _ hx
        have z2 := cell_below bz _ _ hcu
        by_cases hlt2 : s < p.length
        · have k1 : (s : Int) < (p.length : Int) := by omega
          obtain ⟨ae, F, f, rfl, hv, hvs⟩ := (hxs.below bz).get s hlt2
          have hvl := (HW2.out s hlt2).1
          have hvc := (HW2.out s hlt2).2
          have hpc : ckW pr = 0 := ckW_of (by rw [HPL.out]; exact l4) (by rw [HPL.out]; exact l7) HPM.out
          have hD : distI (p.getD s []) pr = (R.getD s 0, 0) := by
            unfold distI
            rw [if_pos (by unfold pairE; rw [hvc, hpc, hvl, HPL.out]; simp), HRG.out s hlt2, dsq_symm]
          have bd : Below wr.heap.size wr wr.drew := (Below.refl _ _).drew
          have RC := RDist_calls F Ap f cp (p.getD s []) pr wr.drew (hvs.below bd) ((hcs.below bz).below bd)
          rw [hD] at RC
          dsimp only at RC
          have HA := Lib.hid (fun q => show argN R (q + 1) = if R.getD (q + 1) 0 < R.getD (argN R q) 0 then q + 1 else argN R q from rfl)
          have HMI := Lib.hid (fun q => show minN R (q + 1) = min (minN R q) (R.getD (q + 1) 0) from rfl)
          have HAM := Lib.hid (fun q => argN_min R q)
          clear hvl hvc hpc hD hvs
          have cases3 : (s = 0 ∧ True) ∨ (∃ q, s = q + 1 ∧ R.getD s 0 < minN R q) ∨ (∃ q, s = q + 1 ∧ ¬ R.getD s 0 < minN R q) := by
            rcases Nat.eq_zero_or_pos s with h | h
            · exact .inl ⟨h, trivial⟩
            · by_cases h2 : R.getD s 0 < minN R (s - 1)
              · exact .inr (.inl ⟨s - 1, by omega, h2⟩)
              · exact .inr (.inr ⟨s - 1, by omega, h2⟩)
          generalize hX : R.getD s 0 = X at *
          generalize p.getD s [] = wd at *
          go_wp2_with fail
          refine region_L (oneQ 99 (fun _ => True) (fun X => X.cell? ⟨w.heap.size, 0, none⟩ = some (.slice (some ad) b.length c) ∧ X.cell? (ac.add j) = some (.slice Ap pr.length cp) ∧ X.cell? (ad.add j) = some (.slice (some ae) p.length e) ∧ X.cell? (ae.add s) = some (.slice F wd.length f))) hmix ?_
          have hS : oneQ 99 (fun _ => True) (fun X => X.cell? ⟨w.heap.size, 0, none⟩ = some (.slice (some ad) b.length c) ∧ X.cell? (ac.add j) = some (.slice Ap pr.length cp) ∧ X.cell? (ad.add j) = some (.slice (some ae) p.length e) ∧ X.cell? (ae.add s) = some (.slice F wd.length f)) (Array.replicate 18 false) wr.drew := ⟨fun _ => trivial, z0, z2, z1, hv⟩
          refine anyL_take (fun _ => True) [] (i := 0) (v := ?_) rfl (by kernel_rfl) (by kernel_rfl) (by kernel_rfl) (fun _ _ _ h => h) (by kernel_rfl) (one_ind (i := 0) (by decide)) (fun _ _ _ _ => trivial) (Or.inl ⟨by rfl, ?_⟩) hS ?_
          rotate_left
          · intro X hX
            clear hX
            go_simp
            try with_reducible rfl
          try simp only [List.getElem_toArray, List.getElem_cons_zero, List.getElem_cons_succ]
          simp only [Act.put, List.setIfInBounds_toArray, List.set_cons_zero, List.set_cons_succ]
          replace hS := (one_ind (i := 0) (by decide) _ _).2 hS
          refine anyL_take (fun X => X.cell? ⟨w.heap.size, 0, none⟩ = some (.slice (some ad) b.length c) ∧ X.cell? (ac.add j) = some (.slice Ap pr.length cp) ∧ X.cell? (ad.add j) = some (.slice (some ae) p.length e) ∧ X.cell? (ae.add s) = some (.slice F wd.length f)) [] (i := 1) (v := ?_) rfl (by kernel_rfl) (by kernel_rfl) (by kernel_rfl) (fun _ _ _ h => h) (by kernel_rfl) (one_ind (i := 1) (by decide)) (fun L X h1 h2 => h2.2) (Or.inl ⟨by rfl, ?_⟩) hS ?_
          rotate_left
          · intro X hX
            obtain ⟨g0, g1, g2, g3⟩ := hX
            go_simp
            try with_reducible rfl
          try simp only [List.getElem_toArray, List.getElem_cons_zero, List.getElem_cons_succ]
          simp only [Act.put, List.setIfInBounds_toArray, List.set_cons_zero, List.set_cons_succ]
          replace hS := (one_ind (i := 1) (by decide) _ _).2 hS
          refine anyL_take (fun _ => True) [] (i := 2) (v := ?_) rfl (by kernel_rfl) (by kernel_rfl) (by kernel_rfl) (fun _ _ _ h => h) (by kernel_rfl) (one_ind (i := 2) (by decide)) (fun _ _ _ _ => trivial) (Or.inl ⟨by rfl, ?_⟩) hS ?_
          rotate_left
          · intro X hX
            clear hX
            go_simp
            try with_reducible rfl
          try simp only [List.getElem_toArray, List.getElem_cons_zero, List.getElem_cons_succ]
          simp only [Act.put, List.setIfInBounds_toArray, List.set_cons_zero, List.set_cons_succ]
          replace hS := (one_ind (i := 2) (by decide) _ _).2 hS
          refine anyL_take (fun _ => True) [] (i := 3) (v := ?_) rfl (by kernel_rfl) (by kernel_rfl) (by kernel_rfl) (fun _ _ _ h => h) (by kernel_rfl) (one_ind (i := 3) (by decide)) (fun _ _ _ _ => trivial) (Or.inl ⟨by rfl, ?_⟩) hS ?_
          rotate_left
          · intro X hX
            clear hX
            go_simp
            try with_reducible rfl
          try simp only [List.getElem_toArray, List.getElem_cons_zero, List.getElem_cons_succ]
          simp only [Act.put, List.setIfInBounds_toArray, List.set_cons_zero, List.set_cons_succ]
          replace hS := (one_ind (i := 3) (by decide) _ _).2 hS
          refine anyL_take (fun X => X.cell? ⟨w.heap.size, 0, none⟩ = some (.slice (some ad) b.length c) ∧ X.cell? (ac.add j) = some (.slice Ap pr.length cp) ∧ X.cell? (ad.add j) = some (.slice (some ae) p.length e) ∧ X.cell? (ae.add s) = some (.slice F wd.length f)) [] (i := 4) (v := ?_) rfl (by kernel_rfl) (by kernel_rfl) (by kernel_rfl) (fun _ _ _ h => h) (by kernel_rfl) (one_ind (i := 4) (by decide)) (fun L X h1 h2 => h2.2) (Or.inl ⟨by rfl, ?_⟩) hS ?_
          rotate_left
          · intro X hX
            obtain ⟨g0, g1, g2, g3⟩ := hX
            go_simp
            try with_reducible rfl
          try simp only [List.getElem_toArray, List.getElem_cons_zero, List.getElem_cons_succ]
          simp only [Act.put, List.setIfInBounds_toArray, List.set_cons_zero, List.set_cons_succ]
          replace hS := (one_ind (i := 4) (by decide) _ _).2 hS
          refine anyL_take (fun _ => True) [] (i := 5) (v := ?_) rfl (by kernel_rfl) (by kernel_rfl) (by kernel_rfl) (fun _ _ _ h => h) (by kernel_rfl) (one_ind (i := 5) (by decide)) (fun _ _ _ _ => trivial) (Or.inl ⟨by rfl, ?_⟩) hS ?_
          rotate_left
          · intro X hX
            clear hX
            go_simp
            try with_reducible rfl
          try simp only [List.getElem_toArray, List.getElem_cons_zero, List.getElem_cons_succ]
          simp only [Act.put, List.setIfInBounds_toArray, List.set_cons_zero, List.set_cons_succ]
          replace hS := (one_ind (i := 5) (by decide) _ _).2 hS
          refine anyL_take (fun _ => True) [] (i := 6) (v := ?_) rfl (by kernel_rfl) (by kernel_rfl) (by kernel_rfl) (fun _ _ _ h => h) (by kernel_rfl) (one_ind (i := 6) (by decide)) (fun _ _ _ _ => trivial) (Or.inl ⟨by rfl, ?_⟩) hS ?_
          rotate_left
          · intro X hX
            clear hX
            go_simp
            try with_reducible rfl
          try simp only [List.getElem_toArray, List.getElem_cons_zero, List.getElem_cons_succ]
          simp only [Act.put, List.setIfInBounds_toArray, List.set_cons_zero, List.set_cons_succ]
          replace hS := (one_ind (i := 6) (by decide) _ _).2 hS
          refine anyL_take (fun X => X.cell? ⟨w.heap.size, 0, none⟩ = some (.slice (some ad) b.length c) ∧ X.cell? (ac.add j) = some (.slice Ap pr.length cp) ∧ X.cell? (ad.add j) = some (.slice (some ae) p.length e) ∧ X.cell? (ae.add s) = some (.slice F wd.length f)) [] (i := 7) (v := ?_) rfl (by kernel_rfl) (by kernel_rfl) (by kernel_rfl) (fun _ _ _ h => h) (by kernel_rfl) (one_ind (i := 7) (by decide)) (fun L X h1 h2 => h2.2) (Or.inl ⟨by rfl, ?_⟩) hS ?_
          rotate_left
          · intro X hX
            obtain ⟨g0, g1, g2, g3⟩ := hX
            go_simp
            try with_reducible rfl
          try simp only [List.getElem_toArray, List.getElem_cons_zero, List.getElem_cons_succ]
          simp only [Act.put, List.setIfInBounds_toArray, List.set_cons_zero, List.set_cons_succ]
          replace hS := (one_ind (i := 7) (by decide) _ _).2 hS
          refine anyL_take (fun _ => True) [] (i := 8) (v := ?_) rfl (by kernel_rfl) (by kernel_rfl) (by kernel_rfl) (fun _ _ _ h => h) (by kernel_rfl) (one_ind (i := 8) (by decide)) (fun _ _ _ _ => trivial) (Or.inl ⟨by rfl, ?_⟩) hS ?_
          rotate_left
          · intro X hX
            clear hX
            go_simp
            try with_reducible rfl
          try simp only [List.getElem_toArray, List.getElem_cons_zero, List.getElem_cons_succ]
          simp only [Act.put, List.setIfInBounds_toArray, List.set_cons_zero, List.set_cons_succ]
          replace hS := (one_ind (i := 8) (by decide) _ _).2 hS
          refine anyL_take (fun _ => True) [] (i := 9) (v := ?_) rfl (by kernel_rfl) (by kernel_rfl) (by kernel_rfl) (fun _ _ _ h => h) (by kernel_rfl) (one_ind (i := 9) (by decide)) (fun _ _ _ _ => trivial) (Or.inl ⟨by rfl, ?_⟩) hS ?_
          rotate_left
          · intro X hX
            clear hX
            go_simp
            try with_reducible rfl
          try simp only [List.getElem_toArray, List.getElem_cons_zero, List.getElem_cons_succ]
          simp only [Act.put, List.setIfInBounds_toArray, List.set_cons_zero, List.set_cons_succ]
          replace hS := (one_ind (i := 9) (by decide) _ _).2 hS
          refine anyL_take (fun _ => True) [] (i := 10) (v := ?_) rfl (by kernel_rfl) (by kernel_rfl) (by kernel_rfl) (fun _ _ _ h => h) (by kernel_rfl) (one_ind (i := 10) (by decide)) (fun _ _ _ _ => trivial) (Or.inl ⟨by rfl, ?_⟩) hS ?_
          rotate_left
          · intro X hX
            clear hX
            go_simp
            try with_reducible rfl
          try simp only [List.getElem_toArray, List.getElem_cons_zero, List.getElem_cons_succ]
          simp only [Act.put, List.setIfInBounds_toArray, List.set_cons_zero, List.set_cons_succ]
          replace hS := (one_ind (i := 10) (by decide) _ _).2 hS
          refine anyL_take (fun X => X.cell? ⟨w.heap.size, 0, none⟩ = some (.slice (some ad) b.length c) ∧ X.cell? (ac.add j) = some (.slice Ap pr.length cp) ∧ X.cell? (ad.add j) = some (.slice (some ae) p.length e) ∧ X.cell? (ae.add s) = some (.slice F wd.length f)) [] (i := 11) (v := ?_) rfl (by kernel_rfl) (by kernel_rfl) (by kernel_rfl) (fun _ _ _ h => h) (by kernel_rfl) (one_ind (i := 11) (by decide)) (fun L X h1 h2 => h2.2) (Or.inl ⟨by rfl, ?_⟩) hS ?_
          rotate_left
          · intro X hX
            obtain ⟨g0, g1, g2, g3⟩ := hX
            go_simp
            try with_reducible rfl
          try simp only [List.getElem_toArray, List.getElem_cons_zero, List.getElem_cons_succ]
          simp only [Act.put, List.setIfInBounds_toArray, List.set_cons_zero, List.set_cons_succ]
          replace hS := (one_ind (i := 11) (by decide) _ _).2 hS
          clear hS
          refine anyL_step (i := 12) (by kernel_rfl) rfl (by rfl) (fun K hK => ?_)
          go_simp
          refine RC.mono ?_
          rintro e9 w9 ⟨rfl, b9⟩
          have be := below_trans bd b9
          dsimp only
          refine hK.out _ _ ⟨fun _ => trivial, cell_below be _ _ z0, cell_below be _ _ z2, cell_below be _ _ z1, cell_below be _ _ hv⟩ ?_
          clear hK K
          try simp only [Act.put, List.setIfInBounds_toArray, List.set_cons_zero, List.set_cons_succ]
          have hS : oneQ 99 (fun _ => True) (fun X => X.cell? ⟨w.heap.size, 0, none⟩ = some (.slice (some ad) b.length c) ∧ X.cell? (ac.add j) = some (.slice Ap pr.length cp) ∧ X.cell? (ad.add j) = some (.slice (some ae) p.length e) ∧ X.cell? (ae.add s) = some (.slice F wd.length f)) ((((((((((((((Array.replicate 18 false).setIfInBounds 0 true).setIfInBounds 1 true).setIfInBounds 2 true).setIfInBounds 3 true).setIfInBounds 4 true).setIfInBounds 5 true).setIfInBounds 6 true).setIfInBounds 7 true).setIfInBounds 8 true).setIfInBounds 9 true).setIfInBounds 10 true).setIfInBounds 11 true).setIfInBounds 12 true) w9 := ⟨fun _ => trivial, cell_below be _ _ z0, cell_below be _ _ z2, cell_below be _ _ z1, cell_below be _ _ hv⟩
          refine anyL_take (fun _ => True) [] (i := 13) (v := ?_) rfl (by kernel_rfl) (by kernel_rfl) (by kernel_rfl) (fun _ _ _ h => h) (by kernel_rfl) (one_ind (i := 13) (by decide)) (fun _ _ _ _ => trivial) (Or.inl ⟨by rfl, ?_⟩) hS ?_
          rotate_left
          · intro X hX
            clear hX
            go_simp
            try with_reducible rfl
          try simp only [List.getElem_toArray, List.getElem_cons_zero, List.getElem_cons_succ]
          simp only [Act.put, List.setIfInBounds_toArray, List.set_cons_zero, List.set_cons_succ]
          replace hS := (one_ind (i := 13) (by decide) _ _).2 hS
          refine anyL_take (fun _ => True) [] (i := 14) (v := ?_) rfl (by kernel_rfl) (by kernel_rfl) (by kernel_rfl) (fun _ _ _ h => h) (by kernel_rfl) (one_ind (i := 14) (by decide)) (fun _ _ _ _ => trivial) (Or.inl ⟨by rfl, ?_⟩) hS ?_
          rotate_left
          · intro X hX
            clear hX
            go_simp
            try with_reducible rfl
          try simp only [List.getElem_toArray, List.getElem_cons_zero, List.getElem_cons_succ]
          simp only [Act.put, List.setIfInBounds_toArray, List.set_cons_zero, List.set_cons_succ]
          replace hS := (one_ind (i := 14) (by decide) _ _).2 hS
          refine anyL_take (fun _ => True) [] (i := 15) (v := ?_) rfl (by kernel_rfl) (by kernel_rfl) (by kernel_rfl) (fun _ _ _ h => h) (by kernel_rfl) (one_ind (i := 15) (by decide)) (fun _ _ _ _ => trivial) (Or.inl ⟨by rfl, ?_⟩) hS ?_
          rotate_left
          · intro X hX
            clear hX
            go_simp
            try with_reducible rfl
          try simp only [List.getElem_toArray, List.getElem_cons_zero, List.getElem_cons_succ]
          simp only [Act.put, List.setIfInBounds_toArray, List.set_cons_zero, List.set_cons_succ]
          replace hS := (one_ind (i := 15) (by decide) _ _).2 hS
          clear hS
          refine anyL_step (i := 16) (by kernel_rfl) rfl (by rfl) (fun K hK => ?_)
          go_simp
          refine hK.out _ _ ⟨fun _ => trivial, cell_below be _ _ z0, cell_below be _ _ z2, cell_below be _ _ z1, cell_below be _ _ hv⟩ ?_
          clear hK K
          try simp only [Act.put, List.setIfInBounds_toArray, List.set_cons_zero, List.set_cons_succ]
          refine anyL_step (i := 17) (by kernel_rfl) rfl (by rfl) (fun K hK => ?_)
          go_simp
          refine hK.out _ _ ⟨fun _ => trivial, cell_below be _ _ z0, cell_below be _ _ z2, cell_below be _ _ z1, cell_below be _ _ hv⟩ ?_
          clear hK K
          try simp only [Act.put, List.setIfInBounds_toArray, List.set_cons_zero, List.set_cons_succ]
          refine anyL_done (by kernel_rfl) ?_ _
          have bz2 := below_trans bz be
          rcases cases3 with ⟨hs0, _⟩ | ⟨q, hq, hc⟩ | ⟨q, hq, hc⟩
          · rcases hcase with ⟨_, rfl, rfl⟩ | ⟨q, hq, _⟩
            rotate_left
            · omega
            have HX := Lib.hid (show R.getD 0 0 = X from by rw [← hX, hs0])
            clear hX
            subst hs0
            have i0 : (((0 : Nat) : Int) == 0) = true := by simp
            go_wp2_with fail
            go_roundg (gk - 1)
            case measure => omega
            case rel => exact ⟨1, by simp, by omega, by omega, .inr ⟨0, rfl, rfl, by rw [show minN R 0 = R.getD 0 0 from rfl, HX.out]⟩, bz2⟩
          · rcases hcase with ⟨h, _⟩ | ⟨q', hq', rfl, rfl⟩
            · omega
            obtain rfl : q = q' := by omega
            have i0 : ((s : Int) == 0) = false := by simp; omega
            have HQ := Lib.hid hq
            have hA2 := HA.out q
            have hM2 := HMI.out q
            rw [← hq, hX, HAM.out, if_pos hc] at hA2
            rw [← hq, hX] at hM2
            have HA2 := Lib.hid hA2
            have HM2 := Lib.hid (show minN R s = X from by rw [hM2]; omega)
            have hmq := hc
            clear hA2 hM2 hq hq' hX HA HMI
            generalize argN R q = aq at *
            generalize minN R q = mq at *
            go_wp2_with fail
            go_roundg (gk - 1)
            case measure => omega
            case rel => exact ⟨s + 1, by simp, by omega, by omega, .inr ⟨s, rfl, by rw [HA2.out], by rw [HM2.out]⟩, bz2⟩
          · rcases hcase with ⟨h, _⟩ | ⟨q', hq', rfl, rfl⟩
            · omega
            obtain rfl : q = q' := by omega
            have i0 : ((s : Int) == 0) = false := by simp; omega
            have HQ := Lib.hid hq
            have hA2 := HA.out q
            have hM2 := HMI.out q
            rw [← hq, hX, HAM.out, if_neg (by omega)] at hA2
            rw [← hq, hX] at hM2
            have HA2 := Lib.hid hA2
            have HM2 := Lib.hid (show minN R s = minN R q from by rw [hM2]; omega)
            clear hA2 hM2 hq hq' hX HA HMI
            generalize argN R q = aq at *
            generalize minN R q = mq at *
            go_wp2_with fail
            go_roundg (gk - 1)
            case measure => omega
            case rel => exact ⟨s + 1, by simp, by omega, by omega, .inr ⟨s, rfl, by rw [HA2.out], by rw [HM2.out]⟩, bz2⟩
        · obtain rfl : s = p.length := by omega
          have k1 : ¬ (p.length : Int) < (p.length : Int) := by omega
          rcases hcase with ⟨h, _⟩ | ⟨q, hq, rfl, rfl⟩
          · omega
          · have ha := argN_le R q
            have hql : q = p.length - 1 := by omega
            have HT2 := Lib.hid HT.out
            rw [← hql] at HT2
            have ho2 := own_below ho bz
            have b3 := below_trans bw bz
            have a0 : (0 : Int) ≤ ((argN R q : Nat) : Int) ∧ ((argN R q : Nat) : Int) ≤ 255 := by omega
            generalize argN R q = a at *
            generalize minN R q = mn at *
            subst hjj
            have htk : tk.length ≤ 1024 := by omega
            clear hql ha hq
            go_wp2_with (at_builtin; refine app_one w4.heap.size rfl _ _ 26 5 .u8 1 rfl Try.underlying26 (by kernel_rfl) (by decide) A1 c1 tk (a : Int) rfl rfl ho2 b3.size (by omega) ?_)
            intro B1 d1 w6 o3 hg3 _
            have b4 := below_grown b3 hg3 ho2 (Nat.le_refl _)
            rw [← HT2.out] at o3
            have HL2 := Lib.hid (show ((argT (tabI b r)).take (tk.length + 1)).length = tk.length + 1 by rw [HT2.out]; simp)
            go_wp2_with fail
            go_roundg (G - 1)
            case measure => have := hG.out; omega
            case rel => exact ⟨tk.length + 1, B1, d1, by simp, by simp, by omega, by have := hG.out; omega, by have := o3; unfold OwnI at this; rw [HL2.out] at this; exact this, b4⟩
    · obtain rfl : j = b.length := by omega
      have i1 : ¬ (b.length : Int) < (b.length : Int) := by omega
      rw [List.take_of_length_le (by simp [argT, tabI_length])] at ho
      go_wp2_with fail
      go_ret2
      exact ⟨A1, c1, rfl, own_mono (by rw [show (argT (tabI b r)).length = b.length from by simp [argT, tabI_length]]; exact ho) gsz, BW.out _ bw⟩
end Go.Proofs.Ythpgaggceefamaa
