/- The reference's Make of tables. -/
import Derived.Test.YthpgaggceefamaaRefM1
namespace Go.Proofs.Ythpgaggceefamaa
set_option linter.unusedVariables false
set_option linter.unusedSimpArgs false
open Go.RowKit
theorem rowI_take {r : List Int} {ws : List (List Int)} {s : Nat} (h : s < ws.length) : (rowI r ws).take (s + 1) = (rowI r ws).take s ++ [dsq r (ws.getD s []) (ws.getD s []).length] := by
  have hl : s < (rowI r ws).length := by simp [rowI]; exact h
  rw [List.take_add_one, List.getElem?_eq_getElem hl]
  simp [rowI, List.getD_eq_getElem?_getD, h]
theorem getD_cutL {v : List Int} {m p j : Nat} (h : j < p) : (cutL v m p).getD j [] = partR v m j := by simp [cutL, List.getD_eq_getElem?_getD, h]
set_option maxHeartbeats 2000000 in
theorem RMake_calls (A B : Option Addr) (c d : Nat) (b : List (List (List Int))) (r : List Int) (w : World) (h : SlB w .i32 A c b) (k : SlI w .i32 B d r) (hS : shortB b) :
    Calls Try.prog 32 #[.agg #[.slice A b.length c], .slice B r.length d] w fun e w' => ∃ A' c', e = .returned (.tuple #[.agg #[.slice A' (makeT b r).1.length c'], .int .i64 (makeT b r).2]) ∧ SlS w' .i64 A' c' (makeT b r).1 ∧ Below w.heap.size w w' := by
  have hm := h.len
  have km := k.len
  have hmix : Try.prog.follows .mixedOrders = true := by kernel_rfl
  have b0 := below_alloc (Below.refl w.heap.size w) (.cells #[.slice A b.length c] 24)
  have b1 := below_alloc b0 (.cells #[.slice none 0 0] 35)
  have y0 : Boxed ((w.alloc (.cells #[.slice A b.length c] 24)).alloc (.cells #[.slice none 0 0] 35)) w.heap.size 24 (.slice A b.length c) := (Boxed.new w _ _).alloc _
  have y1 : Boxed ((w.alloc (.cells #[.slice A b.length c] 24)).alloc (.cells #[.slice none 0 0] 35)) (w.heap.size + 1) 35 (.slice none 0 0) := by
    have := Boxed.new (w.alloc (.cells #[.slice A b.length c] 24)) 35 (.slice none 0 0)
    rwa [World.size_alloc] at this
  have CB := RBCheck_calls A c b _ (h.below b1) hS
  by_cases h1 : ckB b = 0
  · rw [h1] at CB
    by_cases h2 : ckW r = 0
    · have CW := fun w h => RCheckWide_calls B d r w h
      have CD := fun w h => RDim_calls A c b w h hS
      rw [h2] at CW
      by_cases h3 : (r.length : Int) = dimB b
      · have H := Lib.hid (show makeT b r = (tabI b r, 0) by unfold makeT; rw [if_neg (by rw [h1]; decide), if_neg (by rw [h2]; decide), if_neg (by rw [h3]; simp)])
        obtain ⟨l1, l2, l3, l4, l5, l6, l7, l8⟩ := ckB_ok h1
        have l9 := ckW_ok h2
        have hd : dimB b = ((b.length * wdB b : Nat) : Int) := by unfold dimB; rw [if_neg (by rw [h1]; decide)]
        have hrl : r.length = b.length * wdB b := by rw [hd] at h3; exact Int.ofNat.inj h3
        have i3 : ((r.length : Int) != dimB b) = false := by simp [h3]
        have CUT := fun W hW => Cut_calls B d r b.length (wdB b) W hW hrl l9.1 l9.2.1 l1 l4
        have HRL := Lib.hid hrl
        have L8 := Lib.hid l8
        have L9 := Lib.hid l9
        clear h1 h2 h3 hrl l8 l9 hd hS
        generalize hDD : dimB b = D at *
        clear hDD
        go_enter Try.func32, Try.ntmps32
        go_wp2_with fail
        refine CB.mono ?_
        rintro e w1 ⟨rfl, b2⟩
        have bw1 := below_trans b1 b2
        have z0 := y0.kept (grown_of_below b2 none) (by simp)
        have z1 := y1.kept (grown_of_below b2 none) (by simp)
        clear b0 b1 b2 y0 y1 CB
        go_wp2_with fail
        refine (CW _ (k.below bw1)).mono ?_
        rintro e w2 ⟨rfl, b2⟩
        have bw2 := below_trans bw1 b2
        have z0 := z0.kept (grown_of_below b2 none) (by simp)
        have z1 := z1.kept (grown_of_below b2 none) (by simp)
        have c0 := z0.cell
        clear b2 bw1
        go_wp2_with fail
        refine (CD _ (h.below bw2)).mono ?_
        rintro e w3 ⟨rfl, b2⟩
        have bw3 := below_trans bw2 b2
        have z0 := z0.kept (grown_of_below b2 none) (by simp)
        have z1 := z1.kept (grown_of_below b2 none) (by simp)
        have c0 := z0.cell
        clear b2 bw2
        go_wp2_with fail
        refine (CUT _ (k.below bw3)).mono ?_
        rintro e w4 ⟨Ac, cc, rfl, oc, b2⟩
        have bw4 := below_trans bw3 b2
        have z0 := z0.kept (grown_of_below b2 none) (by simp)
        have z1 := z1.kept (grown_of_below b2 none) (by simp)
        have sc := oc.sl
        have c0 := z0.cell
        clear b2 bw3 oc
        have q2 := Boxed.new w4 35 (.slice none 0 0)
        have lz := (Array.getElem?_eq_some_iff.1 z1).1
        have BW := fun W (hW : Below w4.heap.size w4 W) => below_trans bw4 hW
        have SC := fun W (hW : Below w4.heap.size w4 W) => sc.below hW
        have Z1 := fun W (hW : Below w4.heap.size w4 W) => z1.kept (grown_of_below hW none) (by simp)
        have Z0 := fun W (hW : Below w4.heap.size w4 W) => z0.kept (grown_of_below hW none) (by simp)
        have b5 := below_box (w := w4) (.cells #[.slice none 0 0] 35)
        have HTL := Lib.hid (tabI_length b r)
        replace BW := Lib.hid BW
        replace SC := Lib.hid SC
        replace Z1 := Lib.hid Z1
        replace Z0 := Lib.hid Z0
        go_wp2_with fail
        generalize w4.alloc (.cells #[.slice none 0 0] 35) = w5 at *
        generalize w4.heap.size = g at *
        clear z0 z1 sc bw4 CW CD CUT i3 c0
        go_loopg [9, 10, 11] (b.length + 1) (fun gk i u10 u11 w' => ∃ (j : Nat) (A1 : Option Addr) (c1 : Nat), i = .int .i64 (j : Int) ∧ j ≤ b.length ∧ b.length < j + gk ∧ Boxed w' g 35 (.slice A1 j c1) ∧ OwnS w' (g + 1) 55 .i64 A1 c1 ((tabI b r).take j) ∧ Below g w4 w')
        case atStart => exact ⟨0, none, 0, rfl, by omega, by omega, q2, by rw [List.take_zero]; exact OwnS.nil _ _ _ _, b5⟩
        case round =>
          clear q2 b5
          obtain ⟨G, hG⟩ : ∃ G, Hid (G = gk) := ⟨_, Lib.hid rfl⟩
          obtain ⟨Wo, rfl⟩ : ∃ Wo, Wo = wr := ⟨_, rfl⟩
          obtain ⟨j, A1, c1, rfl, hj, hg, y2, yo, bw⟩ := hrel
          have lsz := (Array.getElem?_eq_some_iff.1 y2).1
          have g0 := (Z0.out _ bw).cell
          by_cases hlt : j < b.length
          · have i1 : (j : Int) < (b.length : Int) := by omega
            obtain ⟨ad, E, e, rfl, hx, hxs⟩ := (h.below (BW.out _ bw)).get j hlt
            obtain ⟨ac, Ap, cp, rfl, hcu, hcs⟩ := (SC.out _ bw).get j (by rw [cutL_length]; exact hlt)
            rw [getD_cutL hlt] at hcu hcs
            have hw1 := (L8.out j hlt).1
            have HW2 := Lib.hid (L8.out j hlt).2
            have HT := Lib.hid (tabI_take (r := r) hlt)
            have hpl := partR_length (p := j) HRL.out hlt
            have HPM := Lib.hid (fun v (hv : v ∈ partR r (wdB b) j) => L9.out.2.2 v (partR_mem hv))
            obtain ⟨vs, ov, rv⟩ := yo
            have hvl : vs.length = j := by rw [rv.1, List.length_take, HTL.out]; omega
            have HK := Lib.hid (cutL_length r (wdB b) b.length)
            have k9 : (j : Int) < ((cutL r (wdB b) b.length).length : Int) := by rw [HK.out]; exact i1
            have k8 : (j : Int) < ((b.length : Nat) : Int) := i1
            have HRI := Lib.hid (show (rowI (partR r (wdB b) j) (b.getD j [])).length = (b.getD j []).length by simp [rowI])
            have HRT := Lib.hid (fun s hs => rowI_take (r := partR r (wdB b) j) (ws := b.getD j []) (s := s) hs)
            have HRA := Lib.hid (show (rowI (partR r (wdB b) j) (b.getD j [])).take (b.getD j []).length = rowI (partR r (wdB b) j) (b.getD j []) from List.take_of_length_le (by simp [rowI]))
            have hp256 : (b.getD j []).length ≤ 256 := by rw [hw1]; exact l3
            have HPL := Lib.hid hpl
            have hwl7 : wdB b ≤ 1024 := l7
            clear hw1 hpl
            generalize partR r (wdB b) j = pr at *
            generalize b.getD j [] = p at *
            generalize (tabI b r).take j = tk at *
            subst hvl
            generalize hjj : vs.length = j at *
            go_wp2_with fail
            go_loopg [10, 11] (p.length + 1) (fun gk o i w' => ∃ (s : Nat) (A3 : Option Addr) (c3 : Nat), i = .int .i64 (s : Int) ∧ o = .slice A3 s c3 ∧ s ≤ p.length ∧ p.length < s + gk ∧ w'.ownsRow Wo.heap.size 2 1 (.slice A3 s c3) s (nums .i64 ((rowI pr p).take s)) ∧ Below Wo.heap.size Wo w')
            case atStart => exact ⟨0, none, 0, rfl, rfl, by omega, by omega, by rw [List.take_zero]; exact own_nil _ _ _ _, Below.refl _ _⟩
            case round =>
              obtain ⟨s, A3, c3, rfl, rfl, hs, hg2, oo, bz⟩ := hrel
              have z0 := cell_below bz _ _ g0
              have z1 := cell_below bz _ _ hx
              have z2 := cell_below bz _ _ hcu
              by_cases hlt2 : s < p.length
              · have k1 : (s : Int) < (p.length : Int) := by omega
                obtain ⟨ae, F, f, rfl, hv0, hvs0⟩ := hxs.get s hlt2
                have hv := cell_below bz _ _ hv0
                have hvs := hvs0.below bz
                have hvl := (HW2.out s hlt2).1
                have hvc := (ckW_ok (HW2.out s hlt2).2).2.2
                have HT2 := Lib.hid (HRT.out s hlt2)
                have hpv : pr.length = (p.getD s []).length := by rw [HPL.out, hvl]
                have hp1024 : pr.length ≤ 1024 := by rw [HPL.out]; exact hwl7
                have bd : Below wr.heap.size wr wr.drew := (Below.refl _ _).drew
                have SQ := Square_calls Ap F cp f pr (p.getD s []) wr.drew ((hcs.below bz).below bd) (hvs.below bd) (by omega) (by omega) HPM.out hvc
                rw [show dsq pr (p.getD s []) pr.length = dsq pr (p.getD s []) (p.getD s []).length from by rw [hpv]] at SQ
                have hrl2 : ((rowI pr p).take s).length = s := by rw [List.length_take, HRI.out]; omega
                clear hvc hvs
                generalize dsq pr (p.getD s []) (p.getD s []).length = X at *
                clear hvl hpv hp1024
                generalize p.getD s [] = wd at *
                generalize (rowI pr p).take s = ro at *
                subst hrl2
                go_wp2_with fail
                refine region_L (oneQ 99 (fun _ => True) (fun X => X.cell? ⟨w.heap.size, 0, none⟩ = some (.slice (some ad) b.length c) ∧ X.cell? (ac.add j) = some (.slice Ap pr.length cp) ∧ X.cell? (ad.add j) = some (.slice (some ae) p.length e) ∧ X.cell? (ae.add ro.length) = some (.slice F wd.length f))) hmix ?_
                have hS : oneQ 99 (fun _ => True) (fun X => X.cell? ⟨w.heap.size, 0, none⟩ = some (.slice (some ad) b.length c) ∧ X.cell? (ac.add j) = some (.slice Ap pr.length cp) ∧ X.cell? (ad.add j) = some (.slice (some ae) p.length e) ∧ X.cell? (ae.add ro.length) = some (.slice F wd.length f)) (Array.replicate 17 false) wr.drew := ⟨fun _ => trivial, z0, z2, z1, hv⟩
                refine anyL_take (fun _ => True) [] (i := 0) (v := ?_) rfl (by kernel_rfl) (by kernel_rfl) (by kernel_rfl) (fun _ _ _ h => h) (by kernel_rfl) (one_ind (i := 0) (by decide)) (fun _ _ _ _ => trivial) (Or.inl ⟨by rfl, ?_⟩) hS ?_
                rotate_left
                · intro X hX
                  clear hX
                  go_simp
                  try with_reducible rfl
                simp only [Act.put, List.setIfInBounds_toArray, List.set_cons_zero, List.set_cons_succ]
                replace hS := (one_ind (i := 0) (by decide) _ _).2 hS
                refine anyL_take (fun _ => True) [] (i := 1) (v := ?_) rfl (by kernel_rfl) (by kernel_rfl) (by kernel_rfl) (fun _ _ _ h => h) (by kernel_rfl) (one_ind (i := 1) (by decide)) (fun _ _ _ _ => trivial) (Or.inl ⟨by rfl, ?_⟩) hS ?_
                rotate_left
                · intro X hX
                  clear hX
                  go_simp
                  try with_reducible rfl
                simp only [Act.put, List.setIfInBounds_toArray, List.set_cons_zero, List.set_cons_succ]
                replace hS := (one_ind (i := 1) (by decide) _ _).2 hS
                refine anyL_take (fun _ => True) [] (i := 2) (v := ?_) rfl (by kernel_rfl) (by kernel_rfl) (by kernel_rfl) (fun _ _ _ h => h) (by kernel_rfl) (one_ind (i := 2) (by decide)) (fun _ _ _ _ => trivial) (Or.inl ⟨by rfl, ?_⟩) hS ?_
                rotate_left
                · intro X hX
                  clear hX
                  go_simp
                  try with_reducible rfl
                simp only [Act.put, List.setIfInBounds_toArray, List.set_cons_zero, List.set_cons_succ]
                replace hS := (one_ind (i := 2) (by decide) _ _).2 hS
                refine anyL_take (fun _ => True) [] (i := 3) (v := ?_) rfl (by kernel_rfl) (by kernel_rfl) (by kernel_rfl) (fun _ _ _ h => h) (by kernel_rfl) (one_ind (i := 3) (by decide)) (fun _ _ _ _ => trivial) (Or.inl ⟨by rfl, ?_⟩) hS ?_
                rotate_left
                · intro X hX
                  clear hX
                  go_simp
                  try with_reducible rfl
                simp only [Act.put, List.setIfInBounds_toArray, List.set_cons_zero, List.set_cons_succ]
                replace hS := (one_ind (i := 3) (by decide) _ _).2 hS
                refine anyL_take (fun X => X.cell? ⟨w.heap.size, 0, none⟩ = some (.slice (some ad) b.length c) ∧ X.cell? (ac.add j) = some (.slice Ap pr.length cp) ∧ X.cell? (ad.add j) = some (.slice (some ae) p.length e) ∧ X.cell? (ae.add ro.length) = some (.slice F wd.length f)) [] (i := 4) (v := ?_) rfl (by kernel_rfl) (by kernel_rfl) (by kernel_rfl) (fun _ _ _ h => h) (by kernel_rfl) (one_ind (i := 4) (by decide)) (fun L X h1 h2 => h2.2) (Or.inl ⟨by rfl, ?_⟩) hS ?_
                rotate_left
                · intro X hX
                  obtain ⟨g0, g1, g2, g3⟩ := hX
                  go_simp
                  try with_reducible rfl
                simp only [Act.put, List.setIfInBounds_toArray, List.set_cons_zero, List.set_cons_succ]
                replace hS := (one_ind (i := 4) (by decide) _ _).2 hS
                refine anyL_take (fun _ => True) [] (i := 5) (v := ?_) rfl (by kernel_rfl) (by kernel_rfl) (by kernel_rfl) (fun _ _ _ h => h) (by kernel_rfl) (one_ind (i := 5) (by decide)) (fun _ _ _ _ => trivial) (Or.inl ⟨by rfl, ?_⟩) hS ?_
                rotate_left
                · intro X hX
                  clear hX
                  go_simp
                  try with_reducible rfl
                simp only [Act.put, List.setIfInBounds_toArray, List.set_cons_zero, List.set_cons_succ]
                replace hS := (one_ind (i := 5) (by decide) _ _).2 hS
                refine anyL_take (fun X => X.cell? ⟨w.heap.size, 0, none⟩ = some (.slice (some ad) b.length c) ∧ X.cell? (ac.add j) = some (.slice Ap pr.length cp) ∧ X.cell? (ad.add j) = some (.slice (some ae) p.length e) ∧ X.cell? (ae.add ro.length) = some (.slice F wd.length f)) [] (i := 6) (v := ?_) rfl (by kernel_rfl) (by kernel_rfl) (by kernel_rfl) (fun _ _ _ h => h) (by kernel_rfl) (one_ind (i := 6) (by decide)) (fun L X h1 h2 => h2.2) (Or.inl ⟨by rfl, ?_⟩) hS ?_
                rotate_left
                · intro X hX
                  obtain ⟨g0, g1, g2, g3⟩ := hX
                  go_simp
                  try with_reducible rfl
                simp only [Act.put, List.setIfInBounds_toArray, List.set_cons_zero, List.set_cons_succ]
                replace hS := (one_ind (i := 6) (by decide) _ _).2 hS
                refine anyL_take (fun _ => True) [] (i := 7) (v := ?_) rfl (by kernel_rfl) (by kernel_rfl) (by kernel_rfl) (fun _ _ _ h => h) (by kernel_rfl) (one_ind (i := 7) (by decide)) (fun _ _ _ _ => trivial) (Or.inl ⟨by rfl, ?_⟩) hS ?_
                rotate_left
                · intro X hX
                  clear hX
                  go_simp
                  try with_reducible rfl
                simp only [Act.put, List.setIfInBounds_toArray, List.set_cons_zero, List.set_cons_succ]
                replace hS := (one_ind (i := 7) (by decide) _ _).2 hS
                refine anyL_take (fun _ => True) [] (i := 8) (v := ?_) rfl (by kernel_rfl) (by kernel_rfl) (by kernel_rfl) (fun _ _ _ h => h) (by kernel_rfl) (one_ind (i := 8) (by decide)) (fun _ _ _ _ => trivial) (Or.inl ⟨by rfl, ?_⟩) hS ?_
                rotate_left
                · intro X hX
                  clear hX
                  go_simp
                  try with_reducible rfl
                simp only [Act.put, List.setIfInBounds_toArray, List.set_cons_zero, List.set_cons_succ]
                replace hS := (one_ind (i := 8) (by decide) _ _).2 hS
                refine anyL_take (fun X => X.cell? ⟨w.heap.size, 0, none⟩ = some (.slice (some ad) b.length c) ∧ X.cell? (ac.add j) = some (.slice Ap pr.length cp) ∧ X.cell? (ad.add j) = some (.slice (some ae) p.length e) ∧ X.cell? (ae.add ro.length) = some (.slice F wd.length f)) [] (i := 9) (v := ?_) rfl (by kernel_rfl) (by kernel_rfl) (by kernel_rfl) (fun _ _ _ h => h) (by kernel_rfl) (one_ind (i := 9) (by decide)) (fun L X h1 h2 => h2.2) (Or.inl ⟨by rfl, ?_⟩) hS ?_
                rotate_left
                · intro X hX
                  obtain ⟨g0, g1, g2, g3⟩ := hX
                  go_simp
                  try with_reducible rfl
                simp only [Act.put, List.setIfInBounds_toArray, List.set_cons_zero, List.set_cons_succ]
                replace hS := (one_ind (i := 9) (by decide) _ _).2 hS
                refine anyL_take (fun _ => True) [] (i := 10) (v := ?_) rfl (by kernel_rfl) (by kernel_rfl) (by kernel_rfl) (fun _ _ _ h => h) (by kernel_rfl) (one_ind (i := 10) (by decide)) (fun _ _ _ _ => trivial) (Or.inl ⟨by rfl, ?_⟩) hS ?_
                rotate_left
                · intro X hX
                  clear hX
                  go_simp
                  try with_reducible rfl
                simp only [Act.put, List.setIfInBounds_toArray, List.set_cons_zero, List.set_cons_succ]
                replace hS := (one_ind (i := 10) (by decide) _ _).2 hS
                refine anyL_take (fun _ => True) [] (i := 11) (v := ?_) rfl (by kernel_rfl) (by kernel_rfl) (by kernel_rfl) (fun _ _ _ h => h) (by kernel_rfl) (one_ind (i := 11) (by decide)) (fun _ _ _ _ => trivial) (Or.inl ⟨by rfl, ?_⟩) hS ?_
                rotate_left
                · intro X hX
                  clear hX
                  go_simp
                  try with_reducible rfl
                simp only [Act.put, List.setIfInBounds_toArray, List.set_cons_zero, List.set_cons_succ]
                replace hS := (one_ind (i := 11) (by decide) _ _).2 hS
                refine anyL_take (fun X => X.cell? ⟨w.heap.size, 0, none⟩ = some (.slice (some ad) b.length c) ∧ X.cell? (ac.add j) = some (.slice Ap pr.length cp) ∧ X.cell? (ad.add j) = some (.slice (some ae) p.length e) ∧ X.cell? (ae.add ro.length) = some (.slice F wd.length f)) [] (i := 12) (v := ?_) rfl (by kernel_rfl) (by kernel_rfl) (by kernel_rfl) (fun _ _ _ h => h) (by kernel_rfl) (one_ind (i := 12) (by decide)) (fun L X h1 h2 => h2.2) (Or.inl ⟨by rfl, ?_⟩) hS ?_
                rotate_left
                · intro X hX
                  obtain ⟨g0, g1, g2, g3⟩ := hX
                  go_simp
                  try with_reducible rfl
                simp only [Act.put, List.setIfInBounds_toArray, List.set_cons_zero, List.set_cons_succ]
                replace hS := (one_ind (i := 12) (by decide) _ _).2 hS
                refine anyL_step (i := 13) (by kernel_rfl) rfl (by rfl) (fun K hK => ?_)
                go_simp
                refine SQ.mono ?_
                rintro e9 w9 ⟨rfl, b9⟩
                have be := below_trans bd b9
                have oo9 := own_below oo be
                have bzs := bz.size
                have bes := be.size
                dsimp only
                refine hK.out _ _ ⟨fun _ => trivial, cell_below be _ _ z0, cell_below be _ _ z2, cell_below be _ _ z1, cell_below be _ _ hv⟩ ?_
                clear hK K hS SQ
                try simp only [Act.put, List.setIfInBounds_toArray, List.set_cons_zero, List.set_cons_succ]
                refine anyL_step (i := 14) (by kernel_rfl) rfl (by rfl) (fun K hK => ?_)
                go_simp
                have be2 := below_alloc be (.cells #[.int .i64 X] 2)
                refine hK.out _ _ ⟨fun _ => trivial, cell_below be2 _ _ z0, cell_below be2 _ _ z2, cell_below be2 _ _ z1, cell_below be2 _ _ hv⟩ ?_
                clear hK K
                try simp only [Act.put, List.setIfInBounds_toArray, List.set_cons_zero, List.set_cons_succ]
                refine anyL_step (i := 15) (by kernel_rfl) rfl (by rfl) (fun K hK => ?_)
                refine wp_app_row Wo.heap.size _ _ 55 2 .i64 8 rfl Try.underlying55 (by kernel_rfl) (by decide) A3 c3 ro [X] (some ⟨w9.heap.size, 0, none⟩) 1 rfl rfl (World.ownsRow.alloc oo9 _) (.inr ⟨_, rfl, World.news_of_block (cs := #[.int .i64 X]) (t := 2) (fr := (0, 0)) (heap_alloc_new w9 _)⟩) (by simp; omega) (by simp; omega) ?_
                intro B1 d1 w10 o3 hg3 _ _
                have zz : ∀ (a : Addr) (v : Value), Wo.cell? a = some v → w10.cell? a = some v := fun a v ha => by
                  have hb := World.block_lt_of_cell? _ _ ha
                  have h9 := cell_below be2 _ _ (cell_below bz _ _ ha)
                  rw [hg3.cell_far _ (by simp; omega) (fun hh => by have := own_base oo9 _ hh.symm; omega)]
                  exact h9
                have bz2 : Below Wo.heap.size Wo w10 := below_grown (below_trans bz be2) hg3 (World.ownsRow.alloc oo9 _) (Nat.le_refl _)
                refine hK.out _ _ ⟨fun _ => trivial, zz _ _ g0, zz _ _ hcu, zz _ _ hx, zz _ _ hv0⟩ ?_
                clear hK K hg3 oo9 be be2
                try simp only [Act.put, List.setIfInBounds_toArray, List.set_cons_zero, List.set_cons_succ]
                refine anyL_step (i := 16) (by kernel_rfl) rfl (by rfl) (fun K hK => ?_)
                go_simp
                refine hK.out _ _ ⟨fun _ => trivial, zz _ _ g0, zz _ _ hcu, zz _ _ hx, zz _ _ hv0⟩ ?_
                clear hK K
                refine anyL_done (by kernel_rfl) ?_ _
                go_wp2_with fail
                go_roundg (gk - 1)
                case measure => omega
                case rel => exact ⟨ro.length + 1, B1, d1, by simp, by simp, by omega, by omega, by rw [HT2.out]; have := o3; unfold OwnI at this; rw [List.length_append, List.length_singleton] at this; exact this, bz2⟩
              · obtain rfl : s = p.length := by omega
                have k1 : ¬ (p.length : Int) < (p.length : Int) := by omega
                rw [HRA.out] at oo
                have oi : OwnI wr Wo.heap.size 2 .i64 A3 c3 (rowI pr p) := by unfold OwnI; rw [HRI.out]; exact oo
                have bz' : Below g w4 wr := below_then bw (by omega) bz
                have yy2 : Boxed wr g 35 (.slice A1 j c1) := y2.kept (grown_of_below bz none) (by simp)
                have g2 := yy2.cell
                have ov1 := own_below ov bz
                have rv1 := rv.below bz
                have lW1 := bz.size
                subst hjj
                clear oo
                go_wp2_with (at_builtin; refine app_val (g + 1) rfl _ _ 33 55 (.slice none 0 0) 24 rfl Try.underlying33 (by kernel_rfl) (by decide) rfl A1 c1 vs (.slice A3 p.length c3) rfl rfl ov1 rfl (by omega) (by omega) ?_)
                intro B1 d1 w6 o3 hg3 hat
                rw [← HRI.out] at o3 hg3
                have nb : ∀ j, j < g + 1 → some j ≠ (Value.slice A1 vs.length c1).ownBlock := fun j hj hh => by have := own_base ov1 j hh.symm; omega
                have q2 : Boxed w6 g 35 (.slice A1 vs.length c1) := (yy2.alloc _).kept hg3 (nb _ (by omega))
                have zS := ownS_app1 rv1 ov1 oi (fun k hk => (ov.lt k hk).2) (by omega) o3 hg3 (by simpa using hat) lW1
                have yb3 : Below g w4 w6 := (bz'.alloc (by omega) _).grown hg3 (by simp; omega) (fun j hj => by have := own_base ov1 j hj; omega)
                rw [← HT.out] at zS
                have g3 := q2.cell
                have f3 := q2.frozen
                clear hg3 hat nb ov1 rv1 oi o3 yy2 g2 bz'
                go_wp2_with fail
                go_roundg (G - 1)
                case measure => have := hG.out; omega
                case rel => exact ⟨vs.length + 1, B1, d1, by simp, by omega, by have := hG.out; omega, q2.set (.slice B1 (vs.length + 1) d1), zS.kept (grownBy_setCell' w6 g (.slice B1 (vs.length + 1) d1)) (by omega), yb3.setCell (p := ⟨g, 0, none⟩) (by simp) _⟩
          · obtain rfl : j = b.length := by omega
            have i1 : ¬ (b.length : Int) < (b.length : Int) := by omega
            have y1 := Z1.out _ bw
            have g1 := y1.cell
            have f1 := y1.frozen
            have g2 := y2.cell
            have htl : (tabI b r).take b.length = tabI b r := List.take_of_length_le (by rw [HTL.out]; exact Nat.le_refl _)
            rw [htl] at yo
            go_wp2_with fail
            (try simp only [Exit.inBlock, Exit.then])
            refine ret_box2 rfl rfl rfl (y1.set (.slice A1 b.length c1)) Try.underlying35 rfl (by kernel_rfl) ?_
            rw [H.out]
            exact ⟨A1, c1, by rw [HTL.out]; rfl, (yo.kept (grownBy_setCell' Wo (w.heap.size + 1) (.slice A1 b.length c1)) (by omega)).sl, (BW.out _ bw).setCell (p := ⟨w.heap.size + 1, 0, none⟩) (by simp) _⟩
      · have H := Lib.hid (show makeT b r = ([], 2) by unfold makeT; rw [if_neg (by rw [h1]; decide), if_neg (by rw [h2]; decide), if_pos h3])
        have i3 : ((r.length : Int) != dimB b) = true := by simpa using h3
        clear h1 h2 h3
        generalize hDD : dimB b = D at *
        clear hDD
        go_enter Try.func32, Try.ntmps32
        go_wp2_with fail
        refine CB.mono ?_
        rintro e w1 ⟨rfl, b2⟩
        have bw1 := below_trans b1 b2
        have z0 := y0.kept (grown_of_below b2 none) (by simp)
        have z1 := y1.kept (grown_of_below b2 none) (by simp)
        clear b0 b1 b2 y0 y1 CB
        go_wp2_with fail
        refine (CW _ (k.below bw1)).mono ?_
        rintro e w2 ⟨rfl, b2⟩
        have bw2 := below_trans bw1 b2
        have z0 := z0.kept (grown_of_below b2 none) (by simp)
        have z1 := z1.kept (grown_of_below b2 none) (by simp)
        have c0 := z0.cell
        clear b2 bw1
        go_wp2_with fail
        refine (CD _ (h.below bw2)).mono ?_
        rintro e w3 ⟨rfl, b2⟩
        have bw3 := below_trans bw2 b2
        have z1 := z1.kept (grown_of_below b2 none) (by simp)
        have g1 := z1.cell
        have f1 := z1.frozen
        go_wp2_with fail
        (try simp only [Exit.inBlock, Exit.then])
        refine ret_box2 rfl rfl rfl (z1.set (.slice none 0 0)) Try.underlying35 rfl (by kernel_rfl) ?_
        rw [H.out]
        exact ⟨none, 0, rfl, SlS.nil _ _, bw3.setCell (p := ⟨w.heap.size + 1, 0, none⟩) (by simp) _⟩
    · have CW := fun w h => RCheckWide_calls B d r w h
      have H := Lib.hid (show makeT b r = ([], ckW r) by unfold makeT; rw [if_neg (by rw [h1]; decide), if_pos h2])
      generalize ckW r = x at *
      have i2 : (x != 0) = true := by simpa using h2
      have i2' : (x == 0) = false := by simpa using h2
      clear h1 h2
      go_enter Try.func32, Try.ntmps32
      go_wp2_with fail
      refine CB.mono ?_
      rintro e w1 ⟨rfl, b2⟩
      have bw1 := below_trans b1 b2
      have z0 := y0.kept (grown_of_below b2 none) (by simp)
      have z1 := y1.kept (grown_of_below b2 none) (by simp)
      clear b0 b1 b2 y0 y1 CB
      go_wp2_with fail
      refine (CW _ (k.below bw1)).mono ?_
      rintro e w2 ⟨rfl, b2⟩
      have bw2 := below_trans bw1 b2
      have z0 := z0.kept (grown_of_below b2 none) (by simp)
      have z1 := z1.kept (grown_of_below b2 none) (by simp)
      have c0 := z0.cell
      clear b2 bw1
      have g1 := z1.cell
      have f1 := z1.frozen
      go_wp2_with fail
      (try simp only [Exit.inBlock, Exit.then])
      refine ret_box2 rfl rfl rfl (z1.set (.slice none 0 0)) Try.underlying35 rfl (by kernel_rfl) ?_
      rw [H.out]
      exact ⟨none, 0, rfl, SlS.nil _ _, bw2.setCell (p := ⟨w.heap.size + 1, 0, none⟩) (by simp) _⟩
  · have H := Lib.hid (show makeT b r = ([], ckB b) by unfold makeT; rw [if_pos h1])
    generalize ckB b = x at *
    have i2 : (x != 0) = true := by simpa using h1
    have i2' : (x == 0) = false := by simpa using h1
    clear h1
    go_enter Try.func32, Try.ntmps32
    go_wp2_with fail
    refine CB.mono ?_
    rintro e w1 ⟨rfl, b2⟩
    have bw1 := below_trans b1 b2
    have z0 := y0.kept (grown_of_below b2 none) (by simp)
    have z1 := y1.kept (grown_of_below b2 none) (by simp)
    clear b0 b1 b2 y0 y1 CB
    have g1 := z1.cell
    have f1 := z1.frozen
    go_wp2_with fail
    (try simp only [Exit.inBlock, Exit.then])
    refine ret_box2 rfl rfl rfl (z1.set (.slice none 0 0)) Try.underlying35 rfl (by kernel_rfl) ?_
    rw [H.out]
    exact ⟨none, 0, rfl, SlS.nil _ _, bw1.setCell (p := ⟨w.heap.size + 1, 0, none⟩) (by simp) _⟩
end Go.Proofs.Ythpgaggceefamaa
