/- SlotScript: the walk. -/
import Derived.Test.YtcmdjnllpcnpjaaDoorRefS5
import Derived.Test.YtcmdjnllpcnpjaaDoorBranch
import Derived.Deep.CutBlock
import Derived.Deep.DeepCutAuto
namespace Go.Proofs.YtcmdjnllpcnpjaaDoor
set_option linter.unusedVariables false
set_option linter.unusedSimpArgs false
open Go.RowKit
structure ScN (w0 w : World) (g g' dim room : Nat) (st : St) (tr : List Int) (S Wr El : Nat → Prop) : Prop where
  ms : Mine w0 w S g dim room st tr
  rs : RS w Wr El g' dim room st tr
  lw : ∀ k, Wr k → w0.heap.size ≤ k ∧ k < w.heap.size
  le : ∀ k, El k → w0.heap.size ≤ k ∧ k < w.heap.size
  aw : ∀ k, S k → ¬ Wr k
  ae : ∀ k, S k → ¬ El k
theorem ScN.box {w0 w w' : World} {g g' dim room : Nat} {st : St} {tr : List Int} {S Wr El : Nat → Prop} {b' : Nat} {cs' : List Value} (H : ScN w0 w g g' dim room st tr S Wr El) (h : Below w.heap.size w w') (hb : Blk w' b' 41 cs') (hn : w.heap.size ≤ b') : ScI w0 w' g g' dim room st tr st tr S Wr El b' cs' := by
  have hz := h.size
  exact ⟨H.ms.below h, H.rs.below h, fun k hk => by have := H.lw k hk; omega, fun k hk => by have := H.le k hk; omega, H.aw, H.ae, hb, fun hh => by have := (H.ms.lo _ hh).2; omega, fun hh => by have := (H.lw _ hh).2; omega⟩
theorem wf_le {n : Int} (h : (Lit.int .i64 n).wf = true) : n ≤ 9223372036854775807 := by
  simp [Lit.wf, IntKind.min, IntKind.max, IntKind.signed, IntKind.bits] at h; omega
set_option maxHeartbeats 16000000 in
set_option maxRecDepth 100000 in
theorem SlotScript_row (d r : Int) (A0 : Option Addr) (c0 : Nat) (xs : List Ak) (w : World) (hT : TabG w) (hd : (Lit.int .i64 d).wf = true) (hr : (Lit.int .i64 r).wf = true) (hx : SlK w A0 c0 xs) :
    Calls Tryd.prog 6 #[.int .i64 d, .int .i64 r, .slice A0 xs.length c0] w fun e w' => e = .returned (.bool true) ∧ Below w.heap.size w w' := by
  have hmix : Tryd.prog.follows .mixedOrders = true := by kernel_rfl
  have hm : xs.length ≤ 9223372036854775807 := Nat.le_trans hx.1 (Nat.le_trans hx.2.1 (by decide))
  go_enter Tryd.func6, Tryd.ntmps6
  go_wp2_with fail
  refine (lives_calls w hT).mono ?_
  rintro e w1 ⟨rfl, b1⟩
  go_wp2_with fail
  refine (light_calls A0 c0 xs _ (hx.below b1)).mono ?_
  rintro e _ ⟨rfl, rfl⟩
  by_cases hl : lightK xs
  case neg =>
    rw [decide_eq_false hl]
    go_wp2_with fail
    go_ret
    exact ⟨rfl, b1⟩
  rw [decide_eq_true hl]
  have hxs := hl.2
  have HL := Lib.hid hl.1
  clear hl
  by_cases hgood : (1 ≤ d ∧ d ≤ 1024) ∧ 1 ≤ r ∧ r ≤ 16777216
  case neg =>
    have hbad : d < 1 ∨ 1024 < d ∨ r < 1 ∨ 16777216 < r := by omega
    go_wp2_with fail
    refine (SNew_bad d r _ hbad).mono ?_
    rintro e _ ⟨rfl, rfl⟩
    go_wp2_with fail
    refine (RNew_bad d r _ hbad).mono ?_
    rintro e _ ⟨rfl, rfl⟩
    clear hgood hbad
    go_wp2_with fail
    go_loopg [11, 13, 14, 15, 16, 17, 18, 19, 20, 21, 22, 23, 24, 25, 26] 1 (fun gk i u13 u14 u15 u16 u17 u18 u19 u20 u21 u22 u23 u24 u25 u26 w' => i = .int .i64 0 ∧ w1 = w')
    case atStart => exact ⟨rfl, rfl⟩
    case round =>
      obtain ⟨rfl, rfl⟩ := hrel
      by_cases h0 : (0 : Int) < (xs.length : Int)
      · go_wp2_with fail
        go_ret
        exact ⟨rfl, b1⟩
      · go_wp2_with fail
        go_ret
        exact ⟨rfl, b1⟩
  obtain ⟨dim, rfl⟩ := Int.eq_ofNat_of_zero_le (show 0 ≤ d by omega)
  obtain ⟨room, rfl⟩ := Int.eq_ofNat_of_zero_le (show 0 ≤ r by omega)
  have hd1 : 1 ≤ dim := by omega
  have hd2 : dim ≤ 1024 := by omega
  have hr1 : 1 ≤ room := by omega
  have hr2 : room ≤ 16777216 := by omega
  clear hgood hd hr
  go_wp2_with fail
  refine (New_mine dim room hT b1 hd1 hd2 hr1 hr2).mono ?_
  rintro e w2 ⟨g, S, rfl, M2, b2, lo2⟩
  go_wp2_with fail
  refine (RNew_calls dim room w2 hd1 hd2 hr1 hr2).mono ?_
  rintro e w3 ⟨g', rfl, R3, b3⟩
  have hz2 := M2.B.size
  have H3 : ScN w w3 g g' dim room [] [] S (seg w2.heap.size w3.heap.size) (fun _ => False) :=
    ⟨M2.below b3, R3, (fun k hk => ⟨by have := hk.1; omega, hk.2⟩), (fun k hk => hk.elim), (fun k hk hh => by have := (M2.lo k hk).2; have := hh.1; omega), fun _ _ hh => hh⟩
  clear M2 R3 b1 b2 b3 lo2 hz2
  go_wp2_with fail
  go_loopg [11, 13, 14, 15, 16, 17, 18, 19, 20, 21, 22, 23, 24, 25, 26] (xs.length + 1) (fun gk i u13 u14 u15 u16 u17 u18 u19 u20 u21 u22 u23 u24 u25 u26 w' => ∃ (j : Nat) (st : St) (tr : List Int) (S Wr El : Nat → Prop), i = .int .i64 (j : Int) ∧ j ≤ xs.length ∧ xs.length < j + gk ∧ st.length ≤ j ∧ tr.length ≤ j ∧ ScN w w' g g' dim room st tr S Wr El)
  case atStart => exact ⟨0, [], [], S, _, _, rfl, by omega, by omega, Nat.le_refl _, Nat.le_refl _, H3⟩
  case round =>
    clear H3
    obtain ⟨j, st, tr, S, Wr, El, rfl, hj, hgk, hst, htr, H⟩ := hrel
    obtain ⟨G, hG⟩ : ∃ G, Hid (G = gk) := ⟨gk, rfl⟩
    by_cases hlt : j < xs.length
    case neg =>
      have i2 : ¬ (j : Int) < (xs.length : Int) := by omega
      have BW := H.ms.B
      clear H
      go_wp2_with fail
      go_ret
      exact ⟨rfl, BW⟩
    have hgk2 : xs.length < j + 1 + (G - 1) := by have := hG.out; omega
    have i2 : (j : Int) < (xs.length : Int) := by omega
    obtain ⟨ad, rfl, ha, hok⟩ := (hx.below H.ms.B).at j hlt
    have hvl := HL.out _ (getD_memK hlt)
    have HX := Lib.hid (fun W (hb : Below w.heap.size w W) => ((hx.below hb).2.2.1 _ (getD_memK hlt)).1)
    have HV := Lib.hid (show ∀ x, (xs.getD j default).A = some x → 0 < (xs.getD j default).v.length → x.block < w.heap.size from fun x hA hp => by
      rcases (hx.2.2.1 _ (getD_memK hlt)).1.rd with h0 | ⟨ad0, h0, h1⟩
      · have := congrArg List.length h0; rw [nums_length, List.length_nil] at this; omega
      · rw [h0] at hA; injection hA with hA; subst hA
        have := World.block_lt_of_cell? w _ (h1 0 _ (nums_get _ _ 0 hp))
        unfold Addr.add at this; simpa using this)
    have han : (xs.getD j default).n ≤ 9223372036854775807 := wf_le hok.2.2
    obtain ⟨x0, x1, x2⟩ := ha
    have hsv0 := hok.1
    clear hok
    generalize xs.getD j default = a at *
    obtain ⟨ak, an, av, aA, ac⟩ := a
    dsimp only at x0 x1 x2 hvl HX HV han hsv0
    have bx0 := below_box0 wr (.cells #[.int .i64 ak, .int .i64 an, .slice aA av.length ac] 41)
    have HB := H.box bx0 (Blk.new wr 41 [.int .i64 ak, .int .i64 an, .slice aA av.length ac]) (Nat.le_refl _)
    have hsv := hsv0.below bx0
    have kb := Blk.new wr 41 [.int .i64 ak, .int .i64 an, .slice aA av.length ac]
    have k0 := kb.cell 0
    have k1 := kb.cell 1
    have k2 := kb.cell 2
    simp only [List.getElem?_cons_zero, List.getElem?_cons_succ] at k0 k1 k2
    clear H hsv0 kb
    have H := HB
    clear HB
    go_upto_region 13 with fail
    obtain ⟨W9, hW9⟩ : ∃ W, W = wr.alloc (.cells #[.int .i64 ak, .int .i64 an, .slice aA av.length ac] 41) := ⟨_, rfl⟩
    have hW9' : wr.alloc (.cells ([.int .i64 ak, .int .i64 an, .slice aA av.length ac] : List Value).toArray 41) = W9 := hW9.symm
    rw [hW9'] at H hsv k0 k1 k2
    rw [← hW9]
    clear x0 x1 x2 bx0 hW9 hW9'
    generalize wr.heap.size = bx at *
    go_wp2_with fail
    refine (Pick_calls ak 6 _ (by decide) (by decide)).mono ?_
    rintro e _ ⟨rfl, rfl⟩
    have m0 := Int.emod_nonneg ak (show (6 : Int) ≠ 0 by decide)
    have m1 := Int.emod_lt_of_pos ak (show (0 : Int) < 6 by decide)
    generalize hkk : ak % 6 = kr at *
    have hkr : kr = 0 ∨ kr = 1 ∨ kr = 2 ∨ kr = 3 ∨ kr = 4 ∨ kr = 5 := by omega
    clear m0 m1 hkk
    go_upto_block 2 with fail
    go_cut [13, 14, 15, 16, 17, 18, 19, 20, 21, 22, 23, 24, 25, 26] (fun u13 u14 u15 u16 u17 u18 u19 u20 u21 u22 u23 u24 u25 u26 w' => u13 = .bool true ∧ ∃ (st : St) (tr : List Int) (S Wr El : Nat → Prop), st.length ≤ j + 1 ∧ tr.length ≤ j + 1 ∧ ScI w w' g g' dim room st tr st tr S Wr El bx [.int .i64 ak, .int .i64 an, .slice aA av.length ac])
    case first =>
      obtain ⟨wr, hwr⟩ : ∃ W, W = W9 := ⟨_, rfl⟩
      subst hwr
      rcases hkr with rfl | rfl | rfl | rfl | rfl | rfl
      · go_wp2_with fail
        obtain ⟨W0, rfl⟩ : ∃ W, W = wr := ⟨_, rfl⟩
        refine (Own_int16_calls aA ac av _ hsv (by omega)).mono ?_
        rintro e w3 ⟨A3, c3, rfl, o3, b3⟩
        have P3 : ∀ x, A3 = some x → ¬ S x.block := fun x hx hh => by have := (H.ms.lo _ hh).2; have := (own_block o3 x hx).1; omega
        replace H := H.below b3
        clear k0 k1 k2
        have k2 := H.bk.cell 2
        simp only [List.getElem?_cons_zero, List.getElem?_cons_succ] at k2
        go_wp2_with fail
        refine (Put_mine A3 c3 av H.ms (OwnI.sl o3) P3 (by omega)).mono ?_
        rintro e w4 ⟨S4, rfl, M4, K4, hS4⟩
        replace H := H.stepS M4 K4 hS4
        clear M4 K4 hS4 P3 o3 k2
        have k2 := H.bk.cell 2
        simp only [List.getElem?_cons_zero, List.getElem?_cons_succ] at k2
        go_wp2_with fail
        refine (RPut_calls Wr El g' dim room st tr aA ac av _ H.rs (HX.out _ H.ms.B) (fun x hx hp hh => by have := HV.out x hx hp; have := (H.lw _ hh).1; omega) (by omega) (fun k hk => (H.le k hk).2) (fun k hk => (H.lw k hk).2)).mono ?_
        rintro e w5 ⟨W5, E5, rfl, R5, K5, hW5, hE5⟩
        replace H := H.stepR R5 K5 hW5 hE5
        clear R5 K5 hW5 hE5 k2
        have hlp := putE_length dim room st av
        generalize putN dim room st av = pn at *
        generalize putX dim room st av = px at *
        generalize putE dim room st av = st5 at *
        go_wp2_with fail
        go_meet
        exact ⟨rfl, st5, tr, S4, W5, E5, by omega, by omega, H⟩
      · go_wp2_with fail
        obtain ⟨W0, rfl⟩ : ∃ W, W = wr := ⟨_, rfl⟩
        refine (Own_int16_calls aA ac av _ hsv (by omega)).mono ?_
        rintro e w3 ⟨A3, c3, rfl, o3, b3⟩
        have P3 : ∀ x, A3 = some x → ¬ S x.block := fun x hx hh => by have := (H.ms.lo _ hh).2; have := (own_block o3 x hx).1; omega
        replace H := H.below b3
        clear k0 k1 k2
        have k2 := H.bk.cell 2
        simp only [List.getElem?_cons_zero, List.getElem?_cons_succ] at k2
        go_wp2_with fail
        refine (Put_mine A3 c3 av H.ms (OwnI.sl o3) P3 (by omega)).mono ?_
        rintro e w4 ⟨S4, rfl, M4, K4, hS4⟩
        replace H := H.stepS M4 K4 hS4
        clear M4 K4 hS4 P3 o3 k2
        have k2 := H.bk.cell 2
        simp only [List.getElem?_cons_zero, List.getElem?_cons_succ] at k2
        go_wp2_with fail
        refine (RPut_calls Wr El g' dim room st tr aA ac av _ H.rs (HX.out _ H.ms.B) (fun x hx hp hh => by have := HV.out x hx hp; have := (H.lw _ hh).1; omega) (by omega) (fun k hk => (H.le k hk).2) (fun k hk => (H.lw k hk).2)).mono ?_
        rintro e w5 ⟨W5, E5, rfl, R5, K5, hW5, hE5⟩
        replace H := H.stepR R5 K5 hW5 hE5
        clear R5 K5 hW5 hE5 k2
        have hlp := putE_length dim room st av
        generalize putN dim room st av = pn at *
        generalize putX dim room st av = px at *
        generalize putE dim room st av = st5 at *
        go_wp2_with fail
        go_meet
        exact ⟨rfl, st5, tr, S4, W5, E5, by omega, by omega, H⟩
      · go_wp2_with fail
        obtain ⟨W0, rfl⟩ : ∃ W, W = wr := ⟨_, rfl⟩
        have lwr := Lib.hid H.lw
        obtain ⟨ge, hge⟩ : ∃ ge : Int, ge = (if hasI st an = true then (0 : Int) else 6) := ⟨_, rfl⟩
        have HGE := Lib.hid hge
        clear hge
        have F := Get_mine an H.ms han (by omega) (by omega)
        rw [← HGE.out] at F
        refine F.mono ?_
        clear F
        rintro e w4 ⟨S4, A4, c4, rfl, M4, o4, K4, hS4, aw4⟩
        replace H := H.stepS M4 K4 hS4
        have z4 := K4.size
        clear M4 K4 hS4 k0 k1 k2
        have k1 := H.bk.cell 1
        simp only [List.getElem?_cons_zero, List.getElem?_cons_succ] at k1
        have s4 := OwnI.sl o4
        have aW : Away w4 Wr A4 := fun x hx => ⟨fun hh => by have := (lwr.out _ hh).2; have := (own_block o4 x hx).1; omega, (own_block o4 x hx).2⟩
        clear o4
        go_wp2_with fail
        have F := RGet_calls Wr El g' dim room st tr an w4 H.rs han (by omega) (by omega) (fun k hk => (H.le k hk).2) (fun k hk => (H.lw k hk).2)
        unfold RetRG at F
        rw [← HGE.out] at F
        refine F.mono ?_
        clear F
        rintro e w5 ⟨W5, A5, c5, rfl, R5, s5, l5, K5, hW5⟩
        replace H := H.stepR R5 K5 hW5 (fun k hk => .inl hk)
        replace s4 := s4.keep K5 aW
        clear R5 K5 hW5 k1 aW l5 lwr
        have htl : (getT st tr an).length ≤ j + 1 := by unfold getT; split <;> (try simp) <;> omega
        have SM := Same_int16_b A4 A5 c4 c5 (getV st an) (getV st an) w5 s4 s5
        rw [decide_eq_true (rfl : getV st an = getV st an)] at SM
        generalize getV st an = gv at *
        generalize getT st tr an = tr5 at *
        clear s4 s5
        go_wp2_with fail
        refine SM.mono ?_
        rintro e w6 ⟨rfl, b6⟩
        replace H := H.below b6
        clear SM
        go_wp2_with fail
        go_meet
        exact ⟨rfl, st, tr5, S4, W5, El, by omega, htl, H⟩
      · go_wp2_with fail
        obtain ⟨W0, rfl⟩ : ∃ W, W = wr := ⟨_, rfl⟩
        clear k0 k1 k2
        obtain ⟨ge, hge⟩ : ∃ ge : Int, ge = (if hasI st an = true then (0 : Int) else 6) := ⟨_, rfl⟩
        have HGE := Lib.hid hge
        clear hge
        refine region_L (oneQ 99 (fun _ => True) (fun X => X.cell? ⟨bx, 1, none⟩ = some (.int .i64 an))) hmix ?_
        replace H := H.below ((Below.refl _ _).drew)
        generalize W0.drew = V0 at *
        have hS : oneQ 99 (fun _ => True) (fun X => X.cell? ⟨bx, 1, none⟩ = some (.int .i64 an)) (Array.replicate 10 false) V0 := ⟨fun _ => trivial, H.bk.cell 1⟩
        refine anyL_take (fun _ => True) [] (i := 0) (v := ?_) rfl (by kernel_rfl) (by kernel_rfl) (by kernel_rfl) (fun _ _ _ h => h) (by kernel_rfl) (one_ind (i := 0) (by decide)) (fun _ _ _ _ => trivial) (Or.inl ⟨by rfl, ?_⟩) hS ?_
        rotate_left
        · intro X hX
          clear hX
          go_simp
          try with_reducible rfl
        try simp only [List.getElem_toArray, List.getElem_cons_zero, List.getElem_cons_succ]
        simp only [Act.put, List.setIfInBounds_toArray, List.set_cons_zero, List.set_cons_succ]
        replace hS := (one_ind (i := 0) (by decide) _ _).2 hS
        refine anyL_take (fun _ => True) [] (i := 1) (v := ?_) rfl (by kernel_rfl) (by kernel_rfl) (by kernel_rfl) (fun _ _ _ h => h) (by kernel_rfl) (one_ind (i := 1) (by decide)) (fun _ _ _ _ => trivial) (Or.inl ⟨by rfl, ?_⟩) hS ?_
        rotate_left
        · intro X hX
          clear hX
          go_simp
          try with_reducible rfl
        try simp only [List.getElem_toArray, List.getElem_cons_zero, List.getElem_cons_succ]
        simp only [Act.put, List.setIfInBounds_toArray, List.set_cons_zero, List.set_cons_succ]
        replace hS := (one_ind (i := 1) (by decide) _ _).2 hS
        refine anyL_take (fun X => X.cell? ⟨bx, 1, none⟩ = some (.int .i64 an)) [] (i := 2) (v := ?_) rfl (by kernel_rfl) (by kernel_rfl) (by kernel_rfl) (fun _ _ _ h => h) (by kernel_rfl) (one_ind (i := 2) (by decide)) (fun L X h1 h2 => h2.2) (Or.inl ⟨by rfl, ?_⟩) hS ?_
        rotate_left
        · intro X hX
          have g1 := hX; clear hX
          go_simp
          try with_reducible rfl
        try simp only [List.getElem_toArray, List.getElem_cons_zero, List.getElem_cons_succ]
        simp only [Act.put, List.setIfInBounds_toArray, List.set_cons_zero, List.set_cons_succ]
        replace hS := (one_ind (i := 2) (by decide) _ _).2 hS
        refine anyL_take (fun _ => True) [] (i := 4) (v := ?_) rfl (by kernel_rfl) (by kernel_rfl) (by kernel_rfl) (fun _ _ _ h => h) (by kernel_rfl) (one_ind (i := 4) (by decide)) (fun _ _ _ _ => trivial) (Or.inl ⟨by rfl, ?_⟩) hS ?_
        rotate_left
        · intro X hX
          clear hX
          go_simp
          try with_reducible rfl
        try simp only [List.getElem_toArray, List.getElem_cons_zero, List.getElem_cons_succ]
        simp only [Act.put, List.setIfInBounds_toArray, List.set_cons_zero, List.set_cons_succ]
        replace hS := (one_ind (i := 4) (by decide) _ _).2 hS
        refine anyL_take (fun _ => True) [] (i := 5) (v := ?_) rfl (by kernel_rfl) (by kernel_rfl) (by kernel_rfl) (fun _ _ _ h => h) (by kernel_rfl) (one_ind (i := 5) (by decide)) (fun _ _ _ _ => trivial) (Or.inl ⟨by rfl, ?_⟩) hS ?_
        rotate_left
        · intro X hX
          clear hX
          go_simp
          try with_reducible rfl
        try simp only [List.getElem_toArray, List.getElem_cons_zero, List.getElem_cons_succ]
        simp only [Act.put, List.setIfInBounds_toArray, List.set_cons_zero, List.set_cons_succ]
        replace hS := (one_ind (i := 5) (by decide) _ _).2 hS
        refine anyL_take (fun X => X.cell? ⟨bx, 1, none⟩ = some (.int .i64 an)) [] (i := 6) (v := ?_) rfl (by kernel_rfl) (by kernel_rfl) (by kernel_rfl) (fun _ _ _ h => h) (by kernel_rfl) (one_ind (i := 6) (by decide)) (fun L X h1 h2 => h2.2) (Or.inl ⟨by rfl, ?_⟩) hS ?_
        rotate_left
        · intro X hX
          have g1 := hX; clear hX
          go_simp
          try with_reducible rfl
        try simp only [List.getElem_toArray, List.getElem_cons_zero, List.getElem_cons_succ]
        simp only [Act.put, List.setIfInBounds_toArray, List.set_cons_zero, List.set_cons_succ]
        replace hS := (one_ind (i := 6) (by decide) _ _).2 hS
        clear hS
        refine anyL_step (i := 3) (by kernel_rfl) rfl (by rfl) (fun K hK => ?_)
        go_simp
        have F := Free_mine an H.ms han (by omega)
        rw [← HGE.out] at F
        refine F.mono ?_
        clear F
        rintro e w4 ⟨rfl, M4, K4⟩
        replace H := H.stepS M4 K4 (fun k hk => .inl hk)
        clear M4 K4
        dsimp only
        refine hK.out _ _ ⟨fun _ => trivial, H.bk.cell 1⟩ ?_
        clear hK K
        try simp only [Act.put, List.setIfInBounds_toArray, List.set_cons_zero, List.set_cons_succ]
        refine anyL_step (i := 7) (by kernel_rfl) rfl (by rfl) (fun K hK => ?_)
        go_simp
        have F := RFree_calls Wr El g' dim room st tr an w4 H.rs han (by omega)
        rw [← HGE.out] at F
        refine F.mono ?_
        clear F
        rintro e w5 ⟨rfl, R5, K5⟩
        replace H := H.stepR R5 K5 (fun k hk => .inl hk) (fun k hk => .inl hk)
        clear R5 K5
        dsimp only
        refine hK.out _ _ ⟨fun _ => trivial, H.bk.cell 1⟩ ?_
        clear hK K
        try simp only [Act.put, List.setIfInBounds_toArray, List.set_cons_zero, List.set_cons_succ]
        have hS : oneQ 99 (fun _ => True) (fun X => X.cell? ⟨bx, 1, none⟩ = some (.int .i64 an)) (((((((((Array.replicate 10 false).setIfInBounds 0 true).setIfInBounds 1 true).setIfInBounds 2 true).setIfInBounds 4 true).setIfInBounds 5 true).setIfInBounds 6 true).setIfInBounds 3 true).setIfInBounds 7 true) w5 := ⟨fun _ => trivial, H.bk.cell 1⟩
        refine anyL_take (fun _ => True) [] (i := 8) (v := ?_) rfl (by kernel_rfl) (by kernel_rfl) (by kernel_rfl) (fun _ _ _ h => h) (by kernel_rfl) (one_ind (i := 8) (by decide)) (fun _ _ _ _ => trivial) (Or.inl ⟨by rfl, ?_⟩) hS ?_
        rotate_left
        · intro X hX
          clear hX
          go_simp
          try with_reducible rfl
        try simp only [List.getElem_toArray, List.getElem_cons_zero, List.getElem_cons_succ]
        simp only [Act.put, List.setIfInBounds_toArray, List.set_cons_zero, List.set_cons_succ]
        replace hS := (one_ind (i := 8) (by decide) _ _).2 hS
        refine anyL_take (fun _ => True) [] (i := 9) (v := ?_) rfl (by kernel_rfl) (by kernel_rfl) (by kernel_rfl) (fun _ _ _ h => h) (by kernel_rfl) (one_ind (i := 9) (by decide)) (fun _ _ _ _ => trivial) (Or.inl ⟨by rfl, ?_⟩) hS ?_
        rotate_left
        · intro X hX
          clear hX
          go_simp
          try with_reducible rfl
        try simp only [List.getElem_toArray, List.getElem_cons_zero, List.getElem_cons_succ]
        simp only [Act.put, List.setIfInBounds_toArray, List.set_cons_zero, List.set_cons_succ]
        replace hS := (one_ind (i := 9) (by decide) _ _).2 hS
        clear hS
        refine anyL_done (by kernel_rfl) ?_ _
        have hfl := freeE_length st an
        generalize freeE st an = st5 at *
        replace hfl := Lib.hid hfl
        go_wp2_with fail
        go_meet
        exact ⟨rfl, st5, tr, S, Wr, El, by rw [hfl.out]; omega, by omega, H⟩
      · go_wp2_with fail
        obtain ⟨W0, rfl⟩ : ∃ W, W = wr := ⟨_, rfl⟩
        refine (Clear_mine H.ms).mono ?_
        rintro e w4 ⟨rfl, M4, K4⟩
        replace H := H.stepS M4 K4 (fun k hk => .inl hk)
        clear M4 K4 k0 k1 k2
        obtain ⟨R5, K5, ⟨cv, hcc⟩, hfz⟩ := H.rs.clear
        have H5 := H.stepR R5 K5 (fun k hk => .inl hk) (fun k hk => .inl hk)
        clear R5 K5 H
        go_wp2_with fail
        go_meet
        exact ⟨rfl, st, [], S, Wr, El, by omega, by simp, H5⟩
      · go_wp2_with fail
        obtain ⟨W0, rfl⟩ : ∃ W, W = wr := ⟨_, rfl⟩
        refine (SClone_calls S g dim room st tr _ H.ms.M (by omega) (by omega)).mono ?_
        rintro e w4 ⟨gc, rfl, Mc, bc⟩
        have HR0 := Lib.hid (fun W (hb : Below W0.heap.size W0 W) => H.below hb)
        have zc := bc.size
        have hz0 := H.ms.B.size
        have MC : Mine w w4 (seg W0.heap.size w4.heap.size) gc dim room st tr := ⟨Mc, fun k hk => ⟨by have := hk.1; omega, hk.2⟩, below_then H.ms.B hz0 bc, H.ms.T⟩
        clear Mc k0 k1 k2
        obtain ⟨ge, hge⟩ : ∃ ge : Int, ge = (if hasI st an = true then (0 : Int) else 6) := ⟨_, rfl⟩
        have HGE := Lib.hid hge
        clear hge
        have k1 := (H.below bc).bk.cell 1
        simp only [List.getElem?_cons_zero, List.getElem?_cons_succ] at k1
        go_wp2_with fail
        have F := Get_mine an MC han (by omega) (by omega)
        rw [← HGE.out] at F
        refine F.mono ?_
        clear F
        rintro e w5 ⟨S5, A5, c5, rfl, M5, o5, K5, hS5, aw5⟩
        have B5 := below_keep bc K5 zc (fun k hk => hk.1)
        have hS5b : ∀ k, S5 k → W0.heap.size ≤ k ∧ k < w5.heap.size := fun k hk => by
          have := K5.size
          rcases hS5 k hk with q | q
          · have := q.1; have := q.2; omega
          · omega
        replace H := H.below B5
        have s5 := OwnI.sl o5
        clear MC k1 K5 hS5 o5 bc
        have MC := M5
        clear M5
        go_wp2_with fail
        refine region_L (oneQ 99 (fun _ => True) (fun X => X.cell? ⟨bx, 1, none⟩ = some (.int .i64 an))) hmix ?_
        replace H := H.below ((Below.refl _ _).drew)
        replace s5 := s5.below ((Below.refl _ _).drew)
        replace MC := MC.below ((Below.refl _ _).drew)
        replace aw5 := aw5.step ((Below.refl w5.heap.size w5).drew).size (fun k hk => .inl hk)
        replace B5 := B5.drew
        have z5d := (Below.refl w5.heap.size w5).drew.size
        generalize w5.drew = V5 at *
        have hS : oneQ 99 (fun _ => True) (fun X => X.cell? ⟨bx, 1, none⟩ = some (.int .i64 an)) (Array.replicate 10 false) V5 := ⟨fun _ => trivial, H.bk.cell 1⟩
        have HR := Lib.hid (fun W (hb : Below V5.heap.size V5 W) => H.below hb)
        have HS := Lib.hid (fun W (hb : Below V5.heap.size V5 W) => s5.below hb)
        have HM := Lib.hid (fun W (hb : Below V5.heap.size V5 W) => MC.below hb)
        have HA := Lib.hid (fun W (hb : Below V5.heap.size V5 W) => aw5.step (w' := W) hb.size (fun k hk => .inl hk))
        refine anyL_take (fun _ => True) [] (i := 0) (v := ?_) rfl (by kernel_rfl) (by kernel_rfl) (by kernel_rfl) (fun _ _ _ h => h) (by kernel_rfl) (one_ind (i := 0) (by decide)) (fun _ _ _ _ => trivial) (Or.inl ⟨by rfl, ?_⟩) hS ?_
        rotate_left
        · intro X hX
          clear hX
          go_simp
          try with_reducible rfl
        try simp only [List.getElem_toArray, List.getElem_cons_zero, List.getElem_cons_succ]
        simp only [Act.put, List.setIfInBounds_toArray, List.set_cons_zero, List.set_cons_succ]
        replace hS := (one_ind (i := 0) (by decide) _ _).2 hS
        refine anyL_take (fun _ => True) [] (i := 2) (v := ?_) rfl (by kernel_rfl) (by kernel_rfl) (by kernel_rfl) (fun _ _ _ h => h) (by kernel_rfl) (one_ind (i := 2) (by decide)) (fun _ _ _ _ => trivial) (Or.inl ⟨by rfl, ?_⟩) hS ?_
        rotate_left
        · intro X hX
          clear hX
          go_simp
          try with_reducible rfl
        try simp only [List.getElem_toArray, List.getElem_cons_zero, List.getElem_cons_succ]
        simp only [Act.put, List.setIfInBounds_toArray, List.set_cons_zero, List.set_cons_succ]
        replace hS := (one_ind (i := 2) (by decide) _ _).2 hS
        refine anyL_take (fun X => X.cell? ⟨bx, 1, none⟩ = some (.int .i64 an)) [] (i := 3) (v := ?_) rfl (by kernel_rfl) (by kernel_rfl) (by kernel_rfl) (fun _ _ _ h => h) (by kernel_rfl) (one_ind (i := 3) (by decide)) (fun L X h1 h2 => h2.2) (Or.inl ⟨by rfl, ?_⟩) hS ?_
        rotate_left
        · intro X hX
          have g1 := hX; clear hX
          go_simp
          try with_reducible rfl
        try simp only [List.getElem_toArray, List.getElem_cons_zero, List.getElem_cons_succ]
        simp only [Act.put, List.setIfInBounds_toArray, List.set_cons_zero, List.set_cons_succ]
        replace hS := (one_ind (i := 3) (by decide) _ _).2 hS
        clear hS
        refine anyL_step (i := 1) (by kernel_rfl) rfl (by rfl) (fun K hK => ?_)
        go_simp
        refine (RClone_calls Wr El g' dim room st tr V5 H.rs (by omega) (by omega) (fun k hk => (H.le k hk).2) (fun k hk => (H.lw k hk).2)).mono ?_
        rintro e w6 ⟨g6, rfl, R6, b6⟩
        have HE6 := Lib.hid (fun k (hk : El k) => (show k < w6.heap.size by have := (H.le k hk).2; have := b6.size; omega))
        replace H := H.below b6
        replace s5 := s5.below b6
        replace MC := MC.below b6
        replace aw5 := aw5.step b6.size (fun k hk => .inl hk)
        have z6 := b6.size
        dsimp only
        refine hK.out _ _ ⟨fun _ => trivial, H.bk.cell 1⟩ ?_
        clear hK K
        try simp only [Act.put, List.setIfInBounds_toArray, List.set_cons_zero, List.set_cons_succ]
        refine anyL_step (i := 4) (by kernel_rfl) rfl (by rfl) (fun K hK => ?_)
        go_simp
        have F := RGet_calls _ El g6 dim room st tr an w6 R6 han (by omega) (by omega) HE6.out (fun k hk => hk.2)
        unfold RetRG at F
        rw [← HGE.out] at F
        refine F.mono ?_
        clear F
        rintro e w7 ⟨W7, A7, c7, rfl, _, s7, l7, K7, _⟩
        have b7 := below_keep b6 K7 z6 (fun k hk => hk.1)
        replace H := HR.out _ b7
        replace s5 := HS.out _ b7
        replace MC := HM.out _ b7
        replace aw5 := HA.out _ b7
        have z7 := b7.size
        dsimp only
        refine hK.out _ _ ⟨fun _ => trivial, H.bk.cell 1⟩ ?_
        clear hK K
        try simp only [Act.put, List.setIfInBounds_toArray, List.set_cons_zero, List.set_cons_succ]
        have hS : oneQ 99 (fun _ => True) (fun X => X.cell? ⟨bx, 1, none⟩ = some (.int .i64 an)) ((((((Array.replicate 10 false).setIfInBounds 0 true).setIfInBounds 2 true).setIfInBounds 3 true).setIfInBounds 1 true).setIfInBounds 4 true) w7 := ⟨fun _ => trivial, H.bk.cell 1⟩
        refine anyL_take (fun _ => True) [] (i := 5) (v := ?_) rfl (by kernel_rfl) (by kernel_rfl) (by kernel_rfl) (fun _ _ _ h => h) (by kernel_rfl) (one_ind (i := 5) (by decide)) (fun _ _ _ _ => trivial) (Or.inl ⟨by rfl, ?_⟩) hS ?_
        rotate_left
        · intro X hX
          clear hX
          go_simp
          try with_reducible rfl
        try simp only [List.getElem_toArray, List.getElem_cons_zero, List.getElem_cons_succ]
        simp only [Act.put, List.setIfInBounds_toArray, List.set_cons_zero, List.set_cons_succ]
        replace hS := (one_ind (i := 5) (by decide) _ _).2 hS
        refine anyL_take (fun _ => True) [] (i := 6) (v := ?_) rfl (by kernel_rfl) (by kernel_rfl) (by kernel_rfl) (fun _ _ _ h => h) (by kernel_rfl) (one_ind (i := 6) (by decide)) (fun _ _ _ _ => trivial) (Or.inl ⟨by rfl, ?_⟩) hS ?_
        rotate_left
        · intro X hX
          clear hX
          go_simp
          try with_reducible rfl
        try simp only [List.getElem_toArray, List.getElem_cons_zero, List.getElem_cons_succ]
        simp only [Act.put, List.setIfInBounds_toArray, List.set_cons_zero, List.set_cons_succ]
        replace hS := (one_ind (i := 6) (by decide) _ _).2 hS
        refine anyL_take (fun _ => True) [] (i := 7) (v := ?_) rfl (by kernel_rfl) (by kernel_rfl) (by kernel_rfl) (fun _ _ _ h => h) (by kernel_rfl) (one_ind (i := 7) (by decide)) (fun _ _ _ _ => trivial) (Or.inl ⟨by rfl, ?_⟩) hS ?_
        rotate_left
        · intro X hX
          clear hX
          go_simp
          try with_reducible rfl
        try simp only [List.getElem_toArray, List.getElem_cons_zero, List.getElem_cons_succ]
        simp only [Act.put, List.setIfInBounds_toArray, List.set_cons_zero, List.set_cons_succ]
        replace hS := (one_ind (i := 7) (by decide) _ _).2 hS
        refine anyL_take (fun _ => True) [] (i := 8) (v := ?_) rfl (by kernel_rfl) (by kernel_rfl) (by kernel_rfl) (fun _ _ _ h => h) (by kernel_rfl) (one_ind (i := 8) (by decide)) (fun _ _ _ _ => trivial) (Or.inl ⟨by rfl, ?_⟩) hS ?_
        rotate_left
        · intro X hX
          clear hX
          go_simp
          try with_reducible rfl
        try simp only [List.getElem_toArray, List.getElem_cons_zero, List.getElem_cons_succ]
        simp only [Act.put, List.setIfInBounds_toArray, List.set_cons_zero, List.set_cons_succ]
        replace hS := (one_ind (i := 8) (by decide) _ _).2 hS
        refine anyL_take (fun _ => True) [] (i := 9) (v := ?_) rfl (by kernel_rfl) (by kernel_rfl) (by kernel_rfl) (fun _ _ _ h => h) (by kernel_rfl) (one_ind (i := 9) (by decide)) (fun _ _ _ _ => trivial) (Or.inl ⟨by rfl, ?_⟩) hS ?_
        rotate_left
        · intro X hX
          clear hX
          go_simp
          try with_reducible rfl
        try simp only [List.getElem_toArray, List.getElem_cons_zero, List.getElem_cons_succ]
        simp only [Act.put, List.setIfInBounds_toArray, List.set_cons_zero, List.set_cons_succ]
        replace hS := (one_ind (i := 9) (by decide) _ _).2 hS
        clear hS
        refine anyL_done (by kernel_rfl) ?_ _
        have B7 := below_then B5 B5.size b7
        have z57 : W0.heap.size ≤ w7.heap.size := B7.size
        have FR := Free_mine an MC han (by omega)
        rw [← HGE.out] at FR
        have a7 : Away w7 S5 A7 := fun x hx => ⟨fun hh => by have := (hS5b _ hh).2; have := (l7 x hx).1; omega, (l7 x hx).2.1⟩
        have k1 := H.bk.cell 1
        simp only [List.getElem?_cons_zero, List.getElem?_cons_succ] at k1
        go_wp2_with fail
        refine FR.mono ?_
        rintro e w8 ⟨rfl, M8, K8⟩
        replace s5 := s5.keep K8 aw5
        replace s7 := s7.keep K8 a7
        have H := HR0.out _ (below_keep B7 K8 z57 (fun k hk => (hS5b k hk).1))
        clear FR M8 K8 k1 MC aw5 a7 l7 b7 HR HS HM HA R6 b6 B7 B5 HR0
        have SM := Same_int16_b A5 A7 c5 c7 (getV st an) (getV st an) w8 s5 s7
        rw [decide_eq_true (rfl : getV st an = getV st an)] at SM
        generalize getV st an = gv at *
        clear s5 s7
        go_wp2_with fail
        refine SM.mono ?_
        rintro e w9 ⟨rfl, b9⟩
        replace H := H.below b9
        clear SM
        go_wp2_with fail
        go_meet
        exact ⟨rfl, st, tr, S, Wr, El, by omega, by omega, H⟩
    case rest =>
      clear H hst htr
      obtain ⟨rfl, st, tr, S, Wr, El, hst, htr, H⟩ := hcut
      obtain ⟨T, tc, hct, hst'⟩ := H.rs.trace
      have hsl := Lib.hid hst
      have hst := hst'
      clear hst'
      go_wp2_with fail
      refine region_L (oneQ 99 (fun _ => True) (fun X => X.cell? ⟨bx, 1, none⟩ = some (.int .i64 an) ∧ X.cell? ⟨g', 3, none⟩ = some (.slice T tr.length tc))) hmix ?_
      replace H := H.below ((Below.refl _ _).drew)
      replace hct := cell_below ((Below.refl _ _).drew) _ _ hct
      replace hst := hst.below ((Below.refl _ _).drew)
      generalize wc.drew = V0 at *
      have hS : oneQ 99 (fun _ => True) (fun X => X.cell? ⟨bx, 1, none⟩ = some (.int .i64 an) ∧ X.cell? ⟨g', 3, none⟩ = some (.slice T tr.length tc)) (Array.replicate 39 false) V0 := ⟨fun _ => trivial, ⟨H.bk.cell 1, hct⟩⟩
      refine anyL_take (fun _ => True) [] (i := 0) (v := ?_) rfl (by kernel_rfl) (by kernel_rfl) (by kernel_rfl) (fun _ _ _ h => h) (by kernel_rfl) (one_ind (i := 0) (by decide)) (fun _ _ _ _ => trivial) (Or.inl ⟨by rfl, ?_⟩) hS ?_
      rotate_left
      · intro X hX
        clear hX
        go_simp
        try with_reducible rfl
      try simp only [List.getElem_toArray, List.getElem_cons_zero, List.getElem_cons_succ]
      simp only [Act.put, List.setIfInBounds_toArray, List.set_cons_zero, List.set_cons_succ]
      replace hS := (one_ind (i := 0) (by decide) _ _).2 hS
      refine anyL_take (fun _ => True) [] (i := 1) (v := ?_) rfl (by kernel_rfl) (by kernel_rfl) (by kernel_rfl) (fun _ _ _ h => h) (by kernel_rfl) (one_ind (i := 1) (by decide)) (fun _ _ _ _ => trivial) (Or.inl ⟨by rfl, ?_⟩) hS ?_
      rotate_left
      · intro X hX
        clear hX
        go_simp
        try with_reducible rfl
      try simp only [List.getElem_toArray, List.getElem_cons_zero, List.getElem_cons_succ]
      simp only [Act.put, List.setIfInBounds_toArray, List.set_cons_zero, List.set_cons_succ]
      replace hS := (one_ind (i := 1) (by decide) _ _).2 hS
      refine anyL_take (fun _ => True) [] (i := 2) (v := ?_) rfl (by kernel_rfl) (by kernel_rfl) (by kernel_rfl) (fun _ _ _ h => h) (by kernel_rfl) (one_ind (i := 2) (by decide)) (fun _ _ _ _ => trivial) (Or.inl ⟨by rfl, ?_⟩) hS ?_
      rotate_left
      · intro X hX
        clear hX
        go_simp
        try with_reducible rfl
      try simp only [List.getElem_toArray, List.getElem_cons_zero, List.getElem_cons_succ]
      simp only [Act.put, List.setIfInBounds_toArray, List.set_cons_zero, List.set_cons_succ]
      replace hS := (one_ind (i := 2) (by decide) _ _).2 hS
      refine anyL_take (fun _ => True) [] (i := 3) (v := ?_) rfl (by kernel_rfl) (by kernel_rfl) (by kernel_rfl) (fun _ _ _ h => h) (by kernel_rfl) (one_ind (i := 3) (by decide)) (fun _ _ _ _ => trivial) (Or.inl ⟨by rfl, ?_⟩) hS ?_
      rotate_left
      · intro X hX
        clear hX
        go_simp
        try with_reducible rfl
      try simp only [List.getElem_toArray, List.getElem_cons_zero, List.getElem_cons_succ]
      simp only [Act.put, List.setIfInBounds_toArray, List.set_cons_zero, List.set_cons_succ]
      replace hS := (one_ind (i := 3) (by decide) _ _).2 hS
      refine anyL_take (fun _ => True) [] (i := 5) (v := ?_) rfl (by kernel_rfl) (by kernel_rfl) (by kernel_rfl) (fun _ _ _ h => h) (by kernel_rfl) (one_ind (i := 5) (by decide)) (fun _ _ _ _ => trivial) (Or.inl ⟨by rfl, ?_⟩) hS ?_
      rotate_left
      · intro X hX
        clear hX
        go_simp
        try with_reducible rfl
      try simp only [List.getElem_toArray, List.getElem_cons_zero, List.getElem_cons_succ]
      simp only [Act.put, List.setIfInBounds_toArray, List.set_cons_zero, List.set_cons_succ]
      replace hS := (one_ind (i := 5) (by decide) _ _).2 hS
      clear hS
      refine anyL_step (i := 4) (by kernel_rfl) rfl (by rfl) (fun K hK => ?_)
      go_simp
      refine (SCount_calls S g dim room st tr _ H.ms.M).mono ?_
      rintro e _ ⟨rfl, rfl⟩
      dsimp only
      refine hK.out _ _ ⟨fun _ => trivial, ⟨H.bk.cell 1, hct⟩⟩ ?_
      clear hK K
      try simp only [Act.put, List.setIfInBounds_toArray, List.set_cons_zero, List.set_cons_succ]
      refine anyL_step (i := 6) (by kernel_rfl) rfl (by rfl) (fun K hK => ?_)
      go_simp
      refine (RCount_calls Wr El g' dim room st tr _ H.rs (by omega)).mono ?_
      rintro e _ ⟨rfl, rfl⟩
      dsimp only
      refine hK.out _ _ ⟨fun _ => trivial, ⟨H.bk.cell 1, hct⟩⟩ ?_
      clear hK K
      try simp only [Act.put, List.setIfInBounds_toArray, List.set_cons_zero, List.set_cons_succ]
      have hS : oneQ 99 (fun _ => True) (fun X => X.cell? ⟨bx, 1, none⟩ = some (.int .i64 an) ∧ X.cell? ⟨g', 3, none⟩ = some (.slice T tr.length tc)) ((((((((Array.replicate 39 false).setIfInBounds 0 true).setIfInBounds 1 true).setIfInBounds 2 true).setIfInBounds 3 true).setIfInBounds 5 true).setIfInBounds 4 true).setIfInBounds 6 true) V0 := ⟨fun _ => trivial, ⟨H.bk.cell 1, hct⟩⟩
      refine anyL_take (fun _ => True) [] (i := 7) (v := ?_) rfl (by kernel_rfl) (by kernel_rfl) (by kernel_rfl) (fun _ _ _ h => h) (by kernel_rfl) (one_ind (i := 7) (by decide)) (fun _ _ _ _ => trivial) (Or.inl ⟨by rfl, ?_⟩) hS ?_
      rotate_left
      · intro X hX
        clear hX
        go_simp
        try with_reducible rfl
      try simp only [List.getElem_toArray, List.getElem_cons_zero, List.getElem_cons_succ]
      simp only [Act.put, List.setIfInBounds_toArray, List.set_cons_zero, List.set_cons_succ]
      replace hS := (one_ind (i := 7) (by decide) _ _).2 hS
      refine anyL_take (fun _ => True) [] (i := 8) (v := ?_) rfl (by kernel_rfl) (by kernel_rfl) (by kernel_rfl) (fun _ _ _ h => h) (by kernel_rfl) (one_ind (i := 8) (by decide)) (fun _ _ _ _ => trivial) (Or.inl ⟨by rfl, ?_⟩) hS ?_
      rotate_left
      · intro X hX
        clear hX
        go_simp
        try with_reducible rfl
      try simp only [List.getElem_toArray, List.getElem_cons_zero, List.getElem_cons_succ]
      simp only [Act.put, List.setIfInBounds_toArray, List.set_cons_zero, List.set_cons_succ]
      replace hS := (one_ind (i := 8) (by decide) _ _).2 hS
      refine anyL_take (fun _ => True) [] (i := 9) (v := ?_) rfl (by kernel_rfl) (by kernel_rfl) (by kernel_rfl) (fun _ _ _ h => h) (by kernel_rfl) (one_ind (i := 9) (by decide)) (fun _ _ _ _ => trivial) (Or.inl ⟨by rfl, ?_⟩) hS ?_
      rotate_left
      · intro X hX
        clear hX
        go_simp
        try with_reducible rfl
      try simp only [List.getElem_toArray, List.getElem_cons_zero, List.getElem_cons_succ]
      simp only [Act.put, List.setIfInBounds_toArray, List.set_cons_zero, List.set_cons_succ]
      replace hS := (one_ind (i := 9) (by decide) _ _).2 hS
      refine anyL_take (fun _ => True) [] (i := 10) (v := ?_) rfl (by kernel_rfl) (by kernel_rfl) (by kernel_rfl) (fun _ _ _ h => h) (by kernel_rfl) (one_ind (i := 10) (by decide)) (fun _ _ _ _ => trivial) (Or.inl ⟨by rfl, ?_⟩) hS ?_
      rotate_left
      · intro X hX
        clear hX
        go_simp
        try with_reducible rfl
      try simp only [List.getElem_toArray, List.getElem_cons_zero, List.getElem_cons_succ]
      simp only [Act.put, List.setIfInBounds_toArray, List.set_cons_zero, List.set_cons_succ]
      replace hS := (one_ind (i := 10) (by decide) _ _).2 hS
      refine anyL_take (fun _ => True) [] (i := 12) (v := ?_) rfl (by kernel_rfl) (by kernel_rfl) (by kernel_rfl) (fun _ _ _ h => h) (by kernel_rfl) (one_ind (i := 12) (by decide)) (fun _ _ _ _ => trivial) (Or.inl ⟨by rfl, ?_⟩) hS ?_
      rotate_left
      · intro X hX
        clear hX
        go_simp
        try with_reducible rfl
      try simp only [List.getElem_toArray, List.getElem_cons_zero, List.getElem_cons_succ]
      simp only [Act.put, List.setIfInBounds_toArray, List.set_cons_zero, List.set_cons_succ]
      replace hS := (one_ind (i := 12) (by decide) _ _).2 hS
      refine anyL_take (fun _ => True) [] (i := 13) (v := ?_) rfl (by kernel_rfl) (by kernel_rfl) (by kernel_rfl) (fun _ _ _ h => h) (by kernel_rfl) (one_ind (i := 13) (by decide)) (fun _ _ _ _ => trivial) (Or.inl ⟨by rfl, ?_⟩) hS ?_
      rotate_left
      · intro X hX
        clear hX
        go_simp
        try with_reducible rfl
      try simp only [List.getElem_toArray, List.getElem_cons_zero, List.getElem_cons_succ]
      simp only [Act.put, List.setIfInBounds_toArray, List.set_cons_zero, List.set_cons_succ]
      replace hS := (one_ind (i := 13) (by decide) _ _).2 hS
      refine anyL_take (fun _ => True) [] (i := 14) (v := ?_) rfl (by kernel_rfl) (by kernel_rfl) (by kernel_rfl) (fun _ _ _ h => h) (by kernel_rfl) (one_ind (i := 14) (by decide)) (fun _ _ _ _ => trivial) (Or.inl ⟨by rfl, ?_⟩) hS ?_
      rotate_left
      · intro X hX
        clear hX
        go_simp
        try with_reducible rfl
      try simp only [List.getElem_toArray, List.getElem_cons_zero, List.getElem_cons_succ]
      simp only [Act.put, List.setIfInBounds_toArray, List.set_cons_zero, List.set_cons_succ]
      replace hS := (one_ind (i := 14) (by decide) _ _).2 hS
      refine anyL_take (fun X => X.cell? ⟨bx, 1, none⟩ = some (.int .i64 an) ∧ X.cell? ⟨g', 3, none⟩ = some (.slice T tr.length tc)) [] (i := 15) (v := ?_) rfl (by kernel_rfl) (by kernel_rfl) (by kernel_rfl) (fun _ _ _ h => h) (by kernel_rfl) (one_ind (i := 15) (by decide)) (fun L X h1 h2 => h2.2) (Or.inl ⟨by rfl, ?_⟩) hS ?_
      rotate_left
      · intro X hX
        obtain ⟨g1, g2⟩ := hX
        go_simp
        try with_reducible rfl
      try simp only [List.getElem_toArray, List.getElem_cons_zero, List.getElem_cons_succ]
      simp only [Act.put, List.setIfInBounds_toArray, List.set_cons_zero, List.set_cons_succ]
      replace hS := (one_ind (i := 15) (by decide) _ _).2 hS
      clear hS
      refine anyL_step (i := 11) (by kernel_rfl) rfl (by rfl) (fun K hK => ?_)
      go_simp
      refine (STrace_calls S g dim room st tr _ H.ms.M (by omega)).mono ?_
      rintro e w4 ⟨A4, c4, rfl, o4, b4⟩
      replace H := H.below b4
      replace hct := cell_below b4 _ _ hct
      replace hst := hst.below b4
      dsimp only
      refine hK.out _ _ ⟨fun _ => trivial, ⟨H.bk.cell 1, hct⟩⟩ ?_
      clear hK K
      try simp only [Act.put, List.setIfInBounds_toArray, List.set_cons_zero, List.set_cons_succ]
      refine anyL_step (i := 16) (by kernel_rfl) rfl (by rfl) (fun K hK => ?_)
      go_simp
      refine (Same_int_b A4 T c4 tc tr tr _ (OwnI.sl o4) hst).mono ?_
      rintro e w5 ⟨rfl, b5⟩
      rw [decide_eq_true (rfl : tr = tr)]
      replace H := H.below b5
      replace hct := cell_below b5 _ _ hct
      dsimp only
      refine hK.out _ _ ⟨fun _ => trivial, ⟨H.bk.cell 1, hct⟩⟩ ?_
      clear hK K
      try simp only [Act.put, List.setIfInBounds_toArray, List.set_cons_zero, List.set_cons_succ]
      have hS : oneQ 99 (fun _ => True) (fun X => X.cell? ⟨bx, 1, none⟩ = some (.int .i64 an) ∧ X.cell? ⟨g', 3, none⟩ = some (.slice T tr.length tc)) ((((((((((((((((((Array.replicate 39 false).setIfInBounds 0 true).setIfInBounds 1 true).setIfInBounds 2 true).setIfInBounds 3 true).setIfInBounds 5 true).setIfInBounds 4 true).setIfInBounds 6 true).setIfInBounds 7 true).setIfInBounds 8 true).setIfInBounds 9 true).setIfInBounds 10 true).setIfInBounds 12 true).setIfInBounds 13 true).setIfInBounds 14 true).setIfInBounds 15 true).setIfInBounds 11 true).setIfInBounds 16 true) w5 := ⟨fun _ => trivial, ⟨H.bk.cell 1, hct⟩⟩
      refine anyL_take (fun _ => True) [] (i := 17) (v := ?_) rfl (by kernel_rfl) (by kernel_rfl) (by kernel_rfl) (fun _ _ _ h => h) (by kernel_rfl) (one_ind (i := 17) (by decide)) (fun _ _ _ _ => trivial) (Or.inl ⟨by rfl, ?_⟩) hS ?_
      rotate_left
      · intro X hX
        clear hX
        go_simp
        try with_reducible rfl
      try simp only [List.getElem_toArray, List.getElem_cons_zero, List.getElem_cons_succ]
      simp only [Act.put, List.setIfInBounds_toArray, List.set_cons_zero, List.set_cons_succ]
      replace hS := (one_ind (i := 17) (by decide) _ _).2 hS
      refine anyL_take (fun _ => True) [] (i := 18) (v := ?_) rfl (by kernel_rfl) (by kernel_rfl) (by kernel_rfl) (fun _ _ _ h => h) (by kernel_rfl) (one_ind (i := 18) (by decide)) (fun _ _ _ _ => trivial) (Or.inl ⟨by rfl, ?_⟩) hS ?_
      rotate_left
      · intro X hX
        clear hX
        go_simp
        try with_reducible rfl
      try simp only [List.getElem_toArray, List.getElem_cons_zero, List.getElem_cons_succ]
      simp only [Act.put, List.setIfInBounds_toArray, List.set_cons_zero, List.set_cons_succ]
      replace hS := (one_ind (i := 18) (by decide) _ _).2 hS
      refine anyL_take (fun _ => True) [] (i := 19) (v := ?_) rfl (by kernel_rfl) (by kernel_rfl) (by kernel_rfl) (fun _ _ _ h => h) (by kernel_rfl) (one_ind (i := 19) (by decide)) (fun _ _ _ _ => trivial) (Or.inl ⟨by rfl, ?_⟩) hS ?_
      rotate_left
      · intro X hX
        clear hX
        go_simp
        try with_reducible rfl
      try simp only [List.getElem_toArray, List.getElem_cons_zero, List.getElem_cons_succ]
      simp only [Act.put, List.setIfInBounds_toArray, List.set_cons_zero, List.set_cons_succ]
      replace hS := (one_ind (i := 19) (by decide) _ _).2 hS
      refine anyL_take (fun _ => True) [] (i := 20) (v := ?_) rfl (by kernel_rfl) (by kernel_rfl) (by kernel_rfl) (fun _ _ _ h => h) (by kernel_rfl) (one_ind (i := 20) (by decide)) (fun _ _ _ _ => trivial) (Or.inl ⟨by rfl, ?_⟩) hS ?_
      rotate_left
      · intro X hX
        clear hX
        go_simp
        try with_reducible rfl
      try simp only [List.getElem_toArray, List.getElem_cons_zero, List.getElem_cons_succ]
      simp only [Act.put, List.setIfInBounds_toArray, List.set_cons_zero, List.set_cons_succ]
      replace hS := (one_ind (i := 20) (by decide) _ _).2 hS
      refine anyL_take (fun _ => True) [] (i := 21) (v := ?_) rfl (by kernel_rfl) (by kernel_rfl) (by kernel_rfl) (fun _ _ _ h => h) (by kernel_rfl) (one_ind (i := 21) (by decide)) (fun _ _ _ _ => trivial) (Or.inl ⟨by rfl, ?_⟩) hS ?_
      rotate_left
      · intro X hX
        clear hX
        go_simp
        try with_reducible rfl
      try simp only [List.getElem_toArray, List.getElem_cons_zero, List.getElem_cons_succ]
      simp only [Act.put, List.setIfInBounds_toArray, List.set_cons_zero, List.set_cons_succ]
      replace hS := (one_ind (i := 21) (by decide) _ _).2 hS
      refine anyL_take (fun X => X.cell? ⟨bx, 1, none⟩ = some (.int .i64 an) ∧ X.cell? ⟨g', 3, none⟩ = some (.slice T tr.length tc)) [] (i := 22) (v := ?_) rfl (by kernel_rfl) (by kernel_rfl) (by kernel_rfl) (fun _ _ _ h => h) (by kernel_rfl) (one_ind (i := 22) (by decide)) (fun L X h1 h2 => h2.2) (Or.inl ⟨by rfl, ?_⟩) hS ?_
      rotate_left
      · intro X hX
        obtain ⟨g1, g2⟩ := hX
        go_simp
        try with_reducible rfl
      try simp only [List.getElem_toArray, List.getElem_cons_zero, List.getElem_cons_succ]
      simp only [Act.put, List.setIfInBounds_toArray, List.set_cons_zero, List.set_cons_succ]
      replace hS := (one_ind (i := 22) (by decide) _ _).2 hS
      refine anyL_take (fun _ => True) [] (i := 24) (v := ?_) rfl (by kernel_rfl) (by kernel_rfl) (by kernel_rfl) (fun _ _ _ h => h) (by kernel_rfl) (one_ind (i := 24) (by decide)) (fun _ _ _ _ => trivial) (Or.inl ⟨by rfl, ?_⟩) hS ?_
      rotate_left
      · intro X hX
        clear hX
        go_simp
        try with_reducible rfl
      try simp only [List.getElem_toArray, List.getElem_cons_zero, List.getElem_cons_succ]
      simp only [Act.put, List.setIfInBounds_toArray, List.set_cons_zero, List.set_cons_succ]
      replace hS := (one_ind (i := 24) (by decide) _ _).2 hS
      refine anyL_take (fun _ => True) [] (i := 25) (v := ?_) rfl (by kernel_rfl) (by kernel_rfl) (by kernel_rfl) (fun _ _ _ h => h) (by kernel_rfl) (one_ind (i := 25) (by decide)) (fun _ _ _ _ => trivial) (Or.inl ⟨by rfl, ?_⟩) hS ?_
      rotate_left
      · intro X hX
        clear hX
        go_simp
        try with_reducible rfl
      try simp only [List.getElem_toArray, List.getElem_cons_zero, List.getElem_cons_succ]
      simp only [Act.put, List.setIfInBounds_toArray, List.set_cons_zero, List.set_cons_succ]
      replace hS := (one_ind (i := 25) (by decide) _ _).2 hS
      refine anyL_take (fun X => X.cell? ⟨bx, 1, none⟩ = some (.int .i64 an) ∧ X.cell? ⟨g', 3, none⟩ = some (.slice T tr.length tc)) [] (i := 26) (v := ?_) rfl (by kernel_rfl) (by kernel_rfl) (by kernel_rfl) (fun _ _ _ h => h) (by kernel_rfl) (one_ind (i := 26) (by decide)) (fun L X h1 h2 => h2.2) (Or.inl ⟨by rfl, ?_⟩) hS ?_
      rotate_left
      · intro X hX
        obtain ⟨g1, g2⟩ := hX
        go_simp
        try with_reducible rfl
      try simp only [List.getElem_toArray, List.getElem_cons_zero, List.getElem_cons_succ]
      simp only [Act.put, List.setIfInBounds_toArray, List.set_cons_zero, List.set_cons_succ]
      replace hS := (one_ind (i := 26) (by decide) _ _).2 hS
      clear hS
      refine anyL_step (i := 23) (by kernel_rfl) rfl (by rfl) (fun K hK => ?_)
      go_simp
      refine (SHas_calls S g dim room st tr an _ H.ms.M han (by omega)).mono ?_
      rintro e _ ⟨rfl, rfl⟩
      dsimp only
      refine hK.out _ _ ⟨fun _ => trivial, ⟨H.bk.cell 1, hct⟩⟩ ?_
      clear hK K
      try simp only [Act.put, List.setIfInBounds_toArray, List.set_cons_zero, List.set_cons_succ]
      refine anyL_step (i := 27) (by kernel_rfl) rfl (by rfl) (fun K hK => ?_)
      go_simp
      refine (RHas_calls Wr El g' dim room st tr an _ H.rs han (by omega)).mono ?_
      rintro e _ ⟨rfl, rfl⟩
      dsimp only
      refine hK.out _ _ ⟨fun _ => trivial, ⟨H.bk.cell 1, hct⟩⟩ ?_
      clear hK K
      try simp only [Act.put, List.setIfInBounds_toArray, List.set_cons_zero, List.set_cons_succ]
      have hS : oneQ 99 (fun _ => True) (fun X => X.cell? ⟨bx, 1, none⟩ = some (.int .i64 an) ∧ X.cell? ⟨g', 3, none⟩ = some (.slice T tr.length tc)) (((((((((((((((((((((((((((((Array.replicate 39 false).setIfInBounds 0 true).setIfInBounds 1 true).setIfInBounds 2 true).setIfInBounds 3 true).setIfInBounds 5 true).setIfInBounds 4 true).setIfInBounds 6 true).setIfInBounds 7 true).setIfInBounds 8 true).setIfInBounds 9 true).setIfInBounds 10 true).setIfInBounds 12 true).setIfInBounds 13 true).setIfInBounds 14 true).setIfInBounds 15 true).setIfInBounds 11 true).setIfInBounds 16 true).setIfInBounds 17 true).setIfInBounds 18 true).setIfInBounds 19 true).setIfInBounds 20 true).setIfInBounds 21 true).setIfInBounds 22 true).setIfInBounds 24 true).setIfInBounds 25 true).setIfInBounds 26 true).setIfInBounds 23 true).setIfInBounds 27 true) w5 := ⟨fun _ => trivial, ⟨H.bk.cell 1, hct⟩⟩
      refine anyL_take (fun _ => True) [] (i := 28) (v := ?_) rfl (by kernel_rfl) (by kernel_rfl) (by kernel_rfl) (fun _ _ _ h => h) (by kernel_rfl) (one_ind (i := 28) (by decide)) (fun _ _ _ _ => trivial) (Or.inl ⟨by rfl, ?_⟩) hS ?_
      rotate_left
      · intro X hX
        clear hX
        go_simp
        try with_reducible rfl
      try simp only [List.getElem_toArray, List.getElem_cons_zero, List.getElem_cons_succ]
      simp only [Act.put, List.setIfInBounds_toArray, List.set_cons_zero, List.set_cons_succ]
      replace hS := (one_ind (i := 28) (by decide) _ _).2 hS
      refine anyL_take (fun _ => True) [] (i := 29) (v := ?_) rfl (by kernel_rfl) (by kernel_rfl) (by kernel_rfl) (fun _ _ _ h => h) (by kernel_rfl) (one_ind (i := 29) (by decide)) (fun _ _ _ _ => trivial) (Or.inl ⟨by rfl, ?_⟩) hS ?_
      rotate_left
      · intro X hX
        clear hX
        go_simp
        try with_reducible rfl
      try simp only [List.getElem_toArray, List.getElem_cons_zero, List.getElem_cons_succ]
      simp only [Act.put, List.setIfInBounds_toArray, List.set_cons_zero, List.set_cons_succ]
      replace hS := (one_ind (i := 29) (by decide) _ _).2 hS
      refine anyL_take (fun _ => True) [] (i := 30) (v := ?_) rfl (by kernel_rfl) (by kernel_rfl) (by kernel_rfl) (fun _ _ _ h => h) (by kernel_rfl) (one_ind (i := 30) (by decide)) (fun _ _ _ _ => trivial) (Or.inl ⟨by rfl, ?_⟩) hS ?_
      rotate_left
      · intro X hX
        clear hX
        go_simp
        try with_reducible rfl
      try simp only [List.getElem_toArray, List.getElem_cons_zero, List.getElem_cons_succ]
      simp only [Act.put, List.setIfInBounds_toArray, List.set_cons_zero, List.set_cons_succ]
      replace hS := (one_ind (i := 30) (by decide) _ _).2 hS
      refine anyL_take (fun _ => True) [] (i := 31) (v := ?_) rfl (by kernel_rfl) (by kernel_rfl) (by kernel_rfl) (fun _ _ _ h => h) (by kernel_rfl) (one_ind (i := 31) (by decide)) (fun _ _ _ _ => trivial) (Or.inl ⟨by rfl, ?_⟩) hS ?_
      rotate_left
      · intro X hX
        clear hX
        go_simp
        try with_reducible rfl
      try simp only [List.getElem_toArray, List.getElem_cons_zero, List.getElem_cons_succ]
      simp only [Act.put, List.setIfInBounds_toArray, List.set_cons_zero, List.set_cons_succ]
      replace hS := (one_ind (i := 31) (by decide) _ _).2 hS
      refine anyL_take (fun _ => True) [] (i := 32) (v := ?_) rfl (by kernel_rfl) (by kernel_rfl) (by kernel_rfl) (fun _ _ _ h => h) (by kernel_rfl) (one_ind (i := 32) (by decide)) (fun _ _ _ _ => trivial) (Or.inl ⟨by rfl, ?_⟩) hS ?_
      rotate_left
      · intro X hX
        clear hX
        go_simp
        try with_reducible rfl
      try simp only [List.getElem_toArray, List.getElem_cons_zero, List.getElem_cons_succ]
      simp only [Act.put, List.setIfInBounds_toArray, List.set_cons_zero, List.set_cons_succ]
      replace hS := (one_ind (i := 32) (by decide) _ _).2 hS
      refine anyL_take (fun _ => True) [] (i := 34) (v := ?_) rfl (by kernel_rfl) (by kernel_rfl) (by kernel_rfl) (fun _ _ _ h => h) (by kernel_rfl) (one_ind (i := 34) (by decide)) (fun _ _ _ _ => trivial) (Or.inl ⟨by rfl, ?_⟩) hS ?_
      rotate_left
      · intro X hX
        clear hX
        go_simp
        try with_reducible rfl
      try simp only [List.getElem_toArray, List.getElem_cons_zero, List.getElem_cons_succ]
      simp only [Act.put, List.setIfInBounds_toArray, List.set_cons_zero, List.set_cons_succ]
      replace hS := (one_ind (i := 34) (by decide) _ _).2 hS
      refine anyL_take (fun _ => True) [] (i := 35) (v := ?_) rfl (by kernel_rfl) (by kernel_rfl) (by kernel_rfl) (fun _ _ _ h => h) (by kernel_rfl) (one_ind (i := 35) (by decide)) (fun _ _ _ _ => trivial) (Or.inl ⟨by rfl, ?_⟩) hS ?_
      rotate_left
      · intro X hX
        clear hX
        go_simp
        try with_reducible rfl
      try simp only [List.getElem_toArray, List.getElem_cons_zero, List.getElem_cons_succ]
      simp only [Act.put, List.setIfInBounds_toArray, List.set_cons_zero, List.set_cons_succ]
      replace hS := (one_ind (i := 35) (by decide) _ _).2 hS
      clear hS
      refine anyL_step (i := 33) (by kernel_rfl) rfl (by rfl) (fun K hK => ?_)
      go_simp
      refine (SHas_calls S g dim room st tr (j : Int) _ H.ms.M (by omega) (by omega)).mono ?_
      rintro e _ ⟨rfl, rfl⟩
      dsimp only
      refine hK.out _ _ ⟨fun _ => trivial, ⟨H.bk.cell 1, hct⟩⟩ ?_
      clear hK K
      try simp only [Act.put, List.setIfInBounds_toArray, List.set_cons_zero, List.set_cons_succ]
      refine anyL_step (i := 36) (by kernel_rfl) rfl (by rfl) (fun K hK => ?_)
      go_simp
      refine (RHas_calls Wr El g' dim room st tr (j : Int) _ H.rs (by omega) (by omega)).mono ?_
      rintro e _ ⟨rfl, rfl⟩
      dsimp only
      refine hK.out _ _ ⟨fun _ => trivial, ⟨H.bk.cell 1, hct⟩⟩ ?_
      clear hK K
      try simp only [Act.put, List.setIfInBounds_toArray, List.set_cons_zero, List.set_cons_succ]
      have hS : oneQ 99 (fun _ => True) (fun X => X.cell? ⟨bx, 1, none⟩ = some (.int .i64 an) ∧ X.cell? ⟨g', 3, none⟩ = some (.slice T tr.length tc)) ((((((((((((((((((((((((((((((((((((((Array.replicate 39 false).setIfInBounds 0 true).setIfInBounds 1 true).setIfInBounds 2 true).setIfInBounds 3 true).setIfInBounds 5 true).setIfInBounds 4 true).setIfInBounds 6 true).setIfInBounds 7 true).setIfInBounds 8 true).setIfInBounds 9 true).setIfInBounds 10 true).setIfInBounds 12 true).setIfInBounds 13 true).setIfInBounds 14 true).setIfInBounds 15 true).setIfInBounds 11 true).setIfInBounds 16 true).setIfInBounds 17 true).setIfInBounds 18 true).setIfInBounds 19 true).setIfInBounds 20 true).setIfInBounds 21 true).setIfInBounds 22 true).setIfInBounds 24 true).setIfInBounds 25 true).setIfInBounds 26 true).setIfInBounds 23 true).setIfInBounds 27 true).setIfInBounds 28 true).setIfInBounds 29 true).setIfInBounds 30 true).setIfInBounds 31 true).setIfInBounds 32 true).setIfInBounds 34 true).setIfInBounds 35 true).setIfInBounds 33 true).setIfInBounds 36 true) w5 := ⟨fun _ => trivial, ⟨H.bk.cell 1, hct⟩⟩
      refine anyL_take (fun _ => True) [] (i := 37) (v := ?_) rfl (by kernel_rfl) (by kernel_rfl) (by kernel_rfl) (fun _ _ _ h => h) (by kernel_rfl) (one_ind (i := 37) (by decide)) (fun _ _ _ _ => trivial) (Or.inl ⟨by rfl, ?_⟩) hS ?_
      rotate_left
      · intro X hX
        clear hX
        go_simp
        try with_reducible rfl
      try simp only [List.getElem_toArray, List.getElem_cons_zero, List.getElem_cons_succ]
      simp only [Act.put, List.setIfInBounds_toArray, List.set_cons_zero, List.set_cons_succ]
      replace hS := (one_ind (i := 37) (by decide) _ _).2 hS
      refine anyL_take (fun _ => True) [] (i := 38) (v := ?_) rfl (by kernel_rfl) (by kernel_rfl) (by kernel_rfl) (fun _ _ _ h => h) (by kernel_rfl) (one_ind (i := 38) (by decide)) (fun _ _ _ _ => trivial) (Or.inl ⟨by rfl, ?_⟩) hS ?_
      rotate_left
      · intro X hX
        clear hX
        go_simp
        try with_reducible rfl
      try simp only [List.getElem_toArray, List.getElem_cons_zero, List.getElem_cons_succ]
      simp only [Act.put, List.setIfInBounds_toArray, List.set_cons_zero, List.set_cons_succ]
      replace hS := (one_ind (i := 38) (by decide) _ _).2 hS
      clear hS
      refine anyL_done (by kernel_rfl) ?_ _
      have hsl2 := hsl.out
      go_wp2_with fail
      go_roundg (G - 1)
      case measure => have := hG.out; omega
      case rel => exact ⟨j + 1, st, tr, S, Wr, El, by simp, by omega, hgk2, by omega, by omega, ⟨H.ms, H.rs, H.lw, H.le, H.aw, H.ae⟩⟩
end Go.Proofs.YtcmdjnllpcnpjaaDoor
