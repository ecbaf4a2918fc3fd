/- TableRows. -/
import Derived.Test.YthpgaggceefamaaTabLives
import Derived.Test.YthpgaggceefamaaRowsLaw
import Derived.Test.YthpgaggceefamaaSized
import Derived.Test.YthpgaggceefamaaSizedT
import Derived.Test.YthpgaggceefamaaBranch
import Derived.Deep.DeepCutAuto
import Derived.Deep.CutBlock
namespace Go.Proofs.Ythpgaggceefamaa
set_option linter.unusedVariables false
set_option linter.unusedSimpArgs false
open Go.RowKit
set_option maxHeartbeats 8000000 in
set_option maxRecDepth 100000 in
theorem TableRows_row (A0 : Option Addr) (c0 : Nat) (t : List (List Int)) (A1 : Option Addr) (c1 : Nat) (code : List Int) (by' part word : Int) (w : World)
    (h0 : SlS w .i64 A0 c0 t ∧ ∀ xs ∈ t, ∀ n ∈ xs, (Lit.int .i64 n).wf = true) (h1 : SlI w .u8 A1 c1 code) (f1 : ∀ n ∈ code, (Lit.int .u8 n).wf = true) (y1 : code.length * 1 ≤ 140737488351232) (w2 : (Lit.int .i64 by').wf = true) (w3 : (Lit.int .i64 part).wf = true) (w4 : (Lit.int .i64 word).wf = true) :
    Calls Try.prog 5 #[.agg #[.slice A0 t.length c0], .slice A1 code.length c1, .int .i64 by', .int .i64 part, .int .i64 word] w fun e w' => e = .returned (.bool true) ∧ Below w.heap.size w w' := by
  replace h0 := h0.1
  have hcode : ∀ x ∈ code, 0 ≤ x ∧ x ≤ 255 := fun x hx => bdU8 (f1 x hx)
  clear f1 w2 w3 w4
  have hmix : Try.prog.follows .mixedOrders = true := by kernel_rfl
  have hm := h0.len
  have cm := h1.len
  have b0 := below_alloc (Below.refl w.heap.size w) (.cells #[.slice A0 t.length c0] 35)
  have hbox := box_cell (w := w) 35 (.slice A0 t.length c0)
  have LT := fun W (hW : Below w.heap.size w W) => light_calls A0 c0 t W (h0.below hW)
  have TC := fun W (hW : Below w.heap.size w W) => TCheck_calls A0 c0 t W (h0.below hW)
  cases hlt : lightB t 80 300 with
  | false =>
    rw [hlt] at LT
    go_enter Try.func5, Try.ntmps5
    go_wp2_with fail
    refine (lives_calls _).mono ?_
    rintro e w1 ⟨rfl, b1⟩
    have bt1 := below_trans b0 b1
    replace hbox := cell_below b1 _ _ hbox
    clear b0 b1
    go_wp2_with fail
    refine (LT _ bt1).mono ?_
    rintro e w2 ⟨rfl, b2⟩
    have bt2 := below_trans bt1 b2
    replace hbox := cell_below b2 _ _ hbox
    clear bt1 b2 LT
    go_wp2_with fail
    go_ret
    exact ⟨rfl, bt2⟩
  | true =>
  rw [hlt] at LT
  have hl80 := (lightB_true hlt).1
  clear hlt
  by_cases hck : ckT t = 0
  · rw [hck] at TC
    obtain ⟨l1, l2, l3⟩ := ckT_ok hck
    have LR := Lib.hid (fun i (hi : i < t.length) => And.intro (l3 i hi).1 (l3 i hi).2.1)
    have FITS := Lib.hid (fun p => fitL_fits (ls := t.map List.length) code p (fun i hi => by rw [getD_ls]; exact (l3 i (by simpa using hi)).1))
    have FLEN := Lib.hid (fun p => show (fitL (t.map List.length) code p).length = t.length by rw [fitL_length, List.length_map])
    have F0 := Lib.hid (show fitL (t.map List.length) code 0 = List.replicate t.length 0 by rw [fitL_zero, List.length_map])
    have FS := Lib.hid (fun p => fitL_set (ls := t.map List.length) (code := code) (p := p))
    have HC := Lib.hid hcode
    have CK := Lib.hid hck
    have L3 := Lib.hid l3
    clear hcode l3 hck
    go_enter Try.func5, Try.ntmps5
    go_wp2_with fail
    refine (lives_calls _).mono ?_
    rintro e w1 ⟨rfl, b1⟩
    have bt1 := below_trans b0 b1
    replace hbox := cell_below b1 _ _ hbox
    clear b0 b1
    go_wp2_with fail
    refine (LT _ bt1).mono ?_
    rintro e w2 ⟨rfl, b2⟩
    have bt2 := below_trans bt1 b2
    replace hbox := cell_below b2 _ _ hbox
    clear bt1 b2 LT
    go_wp2_with fail
    refine (TC _ bt2).mono ?_
    rintro e w3 ⟨rfl, b3⟩
    have bt3 := below_trans bt2 b3
    replace hbox := cell_below b3 _ _ hbox
    clear bt2 b3 TC
    go_wp2_with (refine wp_make rfl _ _ 26 rfl 5 .u8 1 Try.underlying26 (by kernel_rfl) .i64 .i64 (t.length : Int) t.length rfl rfl rfl (by omega) (by unfold maxLen; omega) ?_)
    intro w8 o8 b8
    rw [← F0.out] at o8
    go_upto_block 0 with fail
    go_cut [12] (fun s12 wx => ∃ fc, fitsT (t.map List.length) fc ∧ wx.ownsRow w3.heap.size 5 1 (.slice (some ⟨w3.heap.size, 0, none⟩) t.length t.length) t.length (nums .u8 fc) ∧ Below w3.heap.size w3 wx)
    case first =>
      go_wp2_with fail
      go_loopg [12] (t.length + 1) (fun gk u w' => ∃ p : Nat, u = .int .i64 (p : Int) ∧ p ≤ t.length ∧ p ≤ code.length ∧ t.length < p + gk ∧ w'.ownsRow w3.heap.size 5 1 (.slice (some ⟨w3.heap.size, 0, none⟩) t.length t.length) t.length (nums .u8 (fitL (t.map List.length) code p)) ∧ Below w3.heap.size w3 w')
      case atStart => exact ⟨0, rfl, by omega, by omega, by omega, by have := o8; unfold OwnI at this; rw [FLEN.out] at this; exact this, b8⟩
      case round =>
        clear o8 b8
        obtain ⟨p, rfl, hp1, hp2, hg, oo, bz⟩ := hrel
        have three : (p < t.length ∧ p < code.length) ∨ (p = t.length) ∨ (p < t.length ∧ p = code.length) := by omega
        rcases three with ⟨k1, k2⟩ | k1 | ⟨k1, k2⟩
        · have i1 : (p : Int) < (t.length : Int) := by omega
          have i2 : (p : Int) < (code.length : Int) := by omega
          obtain ⟨ab, F, c, rfl, hx, hxs⟩ := h0.get p k1
          obtain ⟨ac, rfl, hc⟩ := h1.get p k2
          have zb0 := hbox
          have zc0 := cell_below bt3 _ _ hc
          have zx0 := cell_below bt3 _ _ hx
          have zb := cell_below bz _ _ zb0
          have zc := cell_below bz _ _ zc0
          have zx := cell_below bz _ _ zx0
          have hy := HC.out _ (getD_mem k2)
          have hwn := LR.out p k1
          have hs := FS.out p
          rw [getD_ls] at hs
          have oc := OwnI.cell oo p (by rw [FLEN.out]; exact k1)
          obtain ⟨oc1, oc2⟩ := oc
          have ow := (OwnI.store oo p (code.getD p 0 % ((t.getD p []).length : Int))).1
          rw [hs] at ow
          have zs := bz.setCell (p := ⟨w3.heap.size, p, none⟩) (Nat.le_refl _) (.int .u8 (code.getD p 0 % ((t.getD p []).length : Int)))
          clear hs hc hx hxs
          generalize code.getD p 0 = y at *
          generalize (t.getD p []).length = wn at *
          generalize (fitL (t.map List.length) code p).getD p 0 = y' at *
          have PK := Pick_calls y (wn : Int) wr.drew (by omega) (by omega)
          have m0 := Int.emod_nonneg y (show (wn : Int) ≠ 0 by omega)
          have m1 := Int.emod_lt_of_pos y (show 0 < (wn : Int) by omega)
          have wy := IntWalk.u8_in (y % (wn : Int)) (by omega)
          have wy2 := IntWalk.i64_in y (by omega)
          have zs0 := zs.drew
          go_wp2_with fail
          refine region_L (oneQ 99 (fun _ => True) (fun X => X.cell? ⟨w.heap.size, 0, none⟩ = some (.slice (some ab) t.length c0) ∧ X.cell? (ac.add p) = some (.int .u8 y) ∧ X.cell? (ab.add p) = some (.slice F wn c))) hmix ?_
          have hS : oneQ 99 (fun _ => True) (fun X => X.cell? ⟨w.heap.size, 0, none⟩ = some (.slice (some ab) t.length c0) ∧ X.cell? (ac.add p) = some (.int .u8 y) ∧ X.cell? (ab.add p) = some (.slice F wn c)) (Array.replicate 17 false) wr.drew := ⟨fun _ => trivial, zb, zc, zx⟩
          refine anyL_take (fun _ => True) [] (i := 0) (v := ?_) rfl (by kernel_rfl) (by kernel_rfl) (by kernel_rfl) (fun _ _ _ h => h) (by kernel_rfl) (one_ind (i := 0) (by decide)) (fun _ _ _ _ => trivial) (Or.inl ⟨by rfl, ?_⟩) hS ?_
          rotate_left
          · intro X hX
            clear hX
            go_simp
            try with_reducible rfl
          try simp only [List.getElem_toArray, List.getElem_cons_zero, List.getElem_cons_succ]
          simp only [Act.put, List.setIfInBounds_toArray, List.set_cons_zero, List.set_cons_succ]
          replace hS := (one_ind (i := 0) (by decide) _ _).2 hS
          refine anyL_take (fun _ => True) [] (i := 1) (v := ?_) rfl (by kernel_rfl) (by kernel_rfl) (by kernel_rfl) (fun _ _ _ h => h) (by kernel_rfl) (one_ind (i := 1) (by decide)) (fun _ _ _ _ => trivial) (Or.inl ⟨by rfl, ?_⟩) hS ?_
          rotate_left
          · intro X hX
            clear hX
            go_simp
            try with_reducible rfl
          try simp only [List.getElem_toArray, List.getElem_cons_zero, List.getElem_cons_succ]
          simp only [Act.put, List.setIfInBounds_toArray, List.set_cons_zero, List.set_cons_succ]
          replace hS := (one_ind (i := 1) (by decide) _ _).2 hS
          refine anyL_take (fun _ => True) [] (i := 2) (v := ?_) rfl (by kernel_rfl) (by kernel_rfl) (by kernel_rfl) (fun _ _ _ h => h) (by kernel_rfl) (one_ind (i := 2) (by decide)) (fun _ _ _ _ => trivial) (Or.inl ⟨by rfl, ?_⟩) hS ?_
          rotate_left
          · intro X hX
            clear hX
            go_simp
            try with_reducible rfl
          try simp only [List.getElem_toArray, List.getElem_cons_zero, List.getElem_cons_succ]
          simp only [Act.put, List.setIfInBounds_toArray, List.set_cons_zero, List.set_cons_succ]
          replace hS := (one_ind (i := 2) (by decide) _ _).2 hS
          refine anyL_take (fun _ => True) [] (i := 3) (v := ?_) rfl (by kernel_rfl) (by kernel_rfl) (by kernel_rfl) (fun _ _ _ h => h) (by kernel_rfl) (one_ind (i := 3) (by decide)) (fun _ _ _ _ => trivial) (Or.inl ⟨by rfl, ?_⟩) hS ?_
          rotate_left
          · intro X hX
            clear hX
            go_simp
            try with_reducible rfl
          try simp only [List.getElem_toArray, List.getElem_cons_zero, List.getElem_cons_succ]
          simp only [Act.put, List.setIfInBounds_toArray, List.set_cons_zero, List.set_cons_succ]
          replace hS := (one_ind (i := 3) (by decide) _ _).2 hS
          refine anyL_take (fun _ => True) [] (i := 4) (v := ?_) rfl (by kernel_rfl) (by kernel_rfl) (by kernel_rfl) (fun _ _ _ h => h) (by kernel_rfl) (one_ind (i := 4) (by decide)) (fun _ _ _ _ => trivial) (Or.inl ⟨by rfl, ?_⟩) hS ?_
          rotate_left
          · intro X hX
            clear hX
            go_simp
            try with_reducible rfl
          try simp only [List.getElem_toArray, List.getElem_cons_zero, List.getElem_cons_succ]
          simp only [Act.put, List.setIfInBounds_toArray, List.set_cons_zero, List.set_cons_succ]
          replace hS := (one_ind (i := 4) (by decide) _ _).2 hS
          refine anyL_take (fun X => X.cell? ⟨w.heap.size, 0, none⟩ = some (.slice (some ab) t.length c0) ∧ X.cell? (ac.add p) = some (.int .u8 y) ∧ X.cell? (ab.add p) = some (.slice F wn c)) [] (i := 5) (v := ?_) rfl (by kernel_rfl) (by kernel_rfl) (by kernel_rfl) (fun _ _ _ h => h) (by kernel_rfl) (one_ind (i := 5) (by decide)) (fun L X h1 h2 => h2.2) (Or.inl ⟨by rfl, ?_⟩) hS ?_
          rotate_left
          · intro X hX
            obtain ⟨g0, g1, g2⟩ := hX
            go_simp
            try with_reducible rfl
          try simp only [List.getElem_toArray, List.getElem_cons_zero, List.getElem_cons_succ]
          simp only [Act.put, List.setIfInBounds_toArray, List.set_cons_zero, List.set_cons_succ]
          replace hS := (one_ind (i := 5) (by decide) _ _).2 hS
          refine anyL_take (fun _ => True) [] (i := 6) (v := ?_) rfl (by kernel_rfl) (by kernel_rfl) (by kernel_rfl) (fun _ _ _ h => h) (by kernel_rfl) (one_ind (i := 6) (by decide)) (fun _ _ _ _ => trivial) (Or.inl ⟨by rfl, ?_⟩) hS ?_
          rotate_left
          · intro X hX
            clear hX
            go_simp
            try with_reducible rfl
          try simp only [List.getElem_toArray, List.getElem_cons_zero, List.getElem_cons_succ]
          simp only [Act.put, List.setIfInBounds_toArray, List.set_cons_zero, List.set_cons_succ]
          replace hS := (one_ind (i := 6) (by decide) _ _).2 hS
          refine anyL_take (fun _ => True) [] (i := 7) (v := ?_) rfl (by kernel_rfl) (by kernel_rfl) (by kernel_rfl) (fun _ _ _ h => h) (by kernel_rfl) (one_ind (i := 7) (by decide)) (fun _ _ _ _ => trivial) (Or.inl ⟨by rfl, ?_⟩) hS ?_
          rotate_left
          · intro X hX
            clear hX
            go_simp
            try with_reducible rfl
          try simp only [List.getElem_toArray, List.getElem_cons_zero, List.getElem_cons_succ]
          simp only [Act.put, List.setIfInBounds_toArray, List.set_cons_zero, List.set_cons_succ]
          replace hS := (one_ind (i := 7) (by decide) _ _).2 hS
          refine anyL_take (fun X => X.cell? ⟨w.heap.size, 0, none⟩ = some (.slice (some ab) t.length c0) ∧ X.cell? (ac.add p) = some (.int .u8 y) ∧ X.cell? (ab.add p) = some (.slice F wn c)) [] (i := 8) (v := ?_) rfl (by kernel_rfl) (by kernel_rfl) (by kernel_rfl) (fun _ _ _ h => h) (by kernel_rfl) (one_ind (i := 8) (by decide)) (fun L X h1 h2 => h2.2) (Or.inl ⟨by rfl, ?_⟩) hS ?_
          rotate_left
          · intro X hX
            obtain ⟨g0, g1, g2⟩ := hX
            go_simp
            try with_reducible rfl
          try simp only [List.getElem_toArray, List.getElem_cons_zero, List.getElem_cons_succ]
          simp only [Act.put, List.setIfInBounds_toArray, List.set_cons_zero, List.set_cons_succ]
          replace hS := (one_ind (i := 8) (by decide) _ _).2 hS
          refine anyL_take (fun _ => True) [] (i := 9) (v := ?_) rfl (by kernel_rfl) (by kernel_rfl) (by kernel_rfl) (fun _ _ _ h => h) (by kernel_rfl) (one_ind (i := 9) (by decide)) (fun _ _ _ _ => trivial) (Or.inl ⟨by rfl, ?_⟩) hS ?_
          rotate_left
          · intro X hX
            clear hX
            go_simp
            try with_reducible rfl
          try simp only [List.getElem_toArray, List.getElem_cons_zero, List.getElem_cons_succ]
          simp only [Act.put, List.setIfInBounds_toArray, List.set_cons_zero, List.set_cons_succ]
          replace hS := (one_ind (i := 9) (by decide) _ _).2 hS
          refine anyL_take (fun _ => True) [] (i := 10) (v := ?_) rfl (by kernel_rfl) (by kernel_rfl) (by kernel_rfl) (fun _ _ _ h => h) (by kernel_rfl) (one_ind (i := 10) (by decide)) (fun _ _ _ _ => trivial) (Or.inl ⟨by rfl, ?_⟩) hS ?_
          rotate_left
          · intro X hX
            clear hX
            go_simp
            try with_reducible rfl
          try simp only [List.getElem_toArray, List.getElem_cons_zero, List.getElem_cons_succ]
          simp only [Act.put, List.setIfInBounds_toArray, List.set_cons_zero, List.set_cons_succ]
          replace hS := (one_ind (i := 10) (by decide) _ _).2 hS
          refine anyL_take (fun X => X.cell? ⟨w.heap.size, 0, none⟩ = some (.slice (some ab) t.length c0) ∧ X.cell? (ac.add p) = some (.int .u8 y) ∧ X.cell? (ab.add p) = some (.slice F wn c)) [] (i := 11) (v := ?_) rfl (by kernel_rfl) (by kernel_rfl) (by kernel_rfl) (fun _ _ _ h => h) (by kernel_rfl) (one_ind (i := 11) (by decide)) (fun L X h1 h2 => h2.2) (Or.inl ⟨by rfl, ?_⟩) hS ?_
          rotate_left
          · intro X hX
            obtain ⟨g0, g1, g2⟩ := hX
            go_simp
            try with_reducible rfl
          try simp only [List.getElem_toArray, List.getElem_cons_zero, List.getElem_cons_succ]
          simp only [Act.put, List.setIfInBounds_toArray, List.set_cons_zero, List.set_cons_succ]
          replace hS := (one_ind (i := 11) (by decide) _ _).2 hS
          refine anyL_take (fun _ => True) [] (i := 12) (v := ?_) rfl (by kernel_rfl) (by kernel_rfl) (by kernel_rfl) (fun _ _ _ h => h) (by kernel_rfl) (one_ind (i := 12) (by decide)) (fun _ _ _ _ => trivial) (Or.inl ⟨by rfl, ?_⟩) hS ?_
          rotate_left
          · intro X hX
            clear hX
            go_simp
            try with_reducible rfl
          try simp only [List.getElem_toArray, List.getElem_cons_zero, List.getElem_cons_succ]
          simp only [Act.put, List.setIfInBounds_toArray, List.set_cons_zero, List.set_cons_succ]
          replace hS := (one_ind (i := 12) (by decide) _ _).2 hS
          clear hS
          refine anyL_step (i := 13) (by kernel_rfl) rfl (by rfl) (fun K hK => ?_)
          go_simp
          refine PK.mono ?_
          rintro e w9 ⟨rfl, rfl⟩
          dsimp only
          refine hK.out _ _ ⟨fun _ => trivial, zb, zc, zx⟩ ?_
          clear hK K
          try simp only [Act.put, List.setIfInBounds_toArray, List.set_cons_zero, List.set_cons_succ]
          have hS : oneQ 99 (fun _ => True) (fun X => X.cell? ⟨w.heap.size, 0, none⟩ = some (.slice (some ab) t.length c0) ∧ X.cell? (ac.add p) = some (.int .u8 y) ∧ X.cell? (ab.add p) = some (.slice F wn c)) (((((((((((((((Array.replicate 17 false).setIfInBounds 0 true).setIfInBounds 1 true).setIfInBounds 2 true).setIfInBounds 3 true).setIfInBounds 4 true).setIfInBounds 5 true).setIfInBounds 6 true).setIfInBounds 7 true).setIfInBounds 8 true).setIfInBounds 9 true).setIfInBounds 10 true).setIfInBounds 11 true).setIfInBounds 12 true).setIfInBounds 13 true) wr.drew := ⟨fun _ => trivial, zb, zc, zx⟩
          refine anyL_take (fun _ => True) [] (i := 14) (v := ?_) rfl (by kernel_rfl) (by kernel_rfl) (by kernel_rfl) (fun _ _ _ h => h) (by kernel_rfl) (one_ind (i := 14) (by decide)) (fun _ _ _ _ => trivial) (Or.inl ⟨by rfl, ?_⟩) hS ?_
          rotate_left
          · intro X hX
            clear hX
            go_simp
            try with_reducible rfl
          try simp only [List.getElem_toArray, List.getElem_cons_zero, List.getElem_cons_succ]
          simp only [Act.put, List.setIfInBounds_toArray, List.set_cons_zero, List.set_cons_succ]
          replace hS := (one_ind (i := 14) (by decide) _ _).2 hS
          refine anyL_take (fun _ => True) [] (i := 15) (v := ?_) rfl (by kernel_rfl) (by kernel_rfl) (by kernel_rfl) (fun _ _ _ h => h) (by kernel_rfl) (one_ind (i := 15) (by decide)) (fun _ _ _ _ => trivial) (Or.inl ⟨by rfl, ?_⟩) hS ?_
          rotate_left
          · intro X hX
            clear hX
            go_simp
            try with_reducible rfl
          try simp only [List.getElem_toArray, List.getElem_cons_zero, List.getElem_cons_succ]
          simp only [Act.put, List.setIfInBounds_toArray, List.set_cons_zero, List.set_cons_succ]
          replace hS := (one_ind (i := 15) (by decide) _ _).2 hS
          clear hS
          refine anyL_step (i := 16) (by kernel_rfl) rfl (by rfl) (fun K hK => ?_)
          go_simp
          refine hK.out _ _ ⟨fun _ => trivial, cell_below zs0 _ _ zb0, cell_below zs0 _ _ zc0, cell_below zs0 _ _ zx0⟩ ?_
          clear hK K
          try simp only [Act.put, List.setIfInBounds_toArray, List.set_cons_zero, List.set_cons_succ]
          refine anyL_done (by kernel_rfl) ?_ _
          go_wp2_with fail
          go_roundg (gk - 1)
          case measure => omega
          case rel => exact ⟨p + 1, by simp, by omega, by omega, by omega, ow.drew, zs0⟩
        · have i1 : ¬ (p : Int) < (t.length : Int) := by omega
          have hf := FITS.out p
          clear k1
          go_wp2_with fail
          go_meet
          exact ⟨_, hf, oo, bz⟩
        · have i1 : (p : Int) < (t.length : Int) := by omega
          have i2 : ¬ (p : Int) < (code.length : Int) := by omega
          have hf := FITS.out p
          clear k1 k2
          go_wp2_with fail
          go_meet
          exact ⟨_, hf, oo, bz⟩
    case rest =>
      clear o8 b8 FITS FLEN F0 FS HC h1
      obtain ⟨fc, hf, oo, bz⟩ := hcut
      have hfl : fc.length = t.length := by have := hf.1; simpa using this
      have sf : SlI wc .u8 (some ⟨w3.heap.size, 0, none⟩) t.length fc := OwnI.sl (base := w3.heap.size) (E := 5) (by unfold OwnI; rw [hfl]; exact oo)
      have bt4 := below_trans bt3 bz
      have zb := cell_below bz _ _ hbox
      clear oo bz hbox bt3
      generalize w3.heap.size = gf at *
      have sbd := sumN_bd CK.out (fun x hx => (fitsT_byte hf (fun i hi => by rw [getD_ls]; exact (LR.out i (by simpa using hi)).2) x hx).1) t.length (Nat.le_refl _) (by omega) (fun p hp => by have := (hf.2 p (by simpa using hp)).2; rwa [getD_ls] at this)
      have HF := Lib.hid hf
      have HFL := Lib.hid hfl
      have TS1 := fun W h k => TSum_fits A0 (some ⟨gf, 0, none⟩) c0 t.length t fc t.length rfl W h k CK.out HF.out
      have hp0 := Int.emod_nonneg by' (show (t.length : Int) ≠ 0 by omega)
      have hp1 := Int.emod_lt_of_pos by' (show 0 < (t.length : Int) by omega)
      obtain ⟨q, hq⟩ : ∃ q : Nat, by' % (t.length : Int) = (q : Int) := ⟨(by' % (t.length : Int)).toNat, by omega⟩
      have hqn : q < t.length := by omega
      have PB := fun W => Pick_calls by' (t.length : Int) W (by omega) (by omega)
      rw [hq] at PB
      have hs0 := Int.emod_nonneg part (show (t.length : Int) ≠ 0 by omega)
      have hs1 := Int.emod_lt_of_pos part (show 0 < (t.length : Int) by omega)
      obtain ⟨s, hs⟩ : ∃ s : Nat, part % (t.length : Int) = (s : Int) := ⟨(part % (t.length : Int)).toNat, by omega⟩
      have hsn : s < t.length := by omega
      have PP := fun W => Pick_calls part (t.length : Int) W (by omega) (by omega)
      rw [hs] at PP
      clear hq hp0 hp1 hs hs0 hs1 hf hfl
      have OL := fun A c xss W h => OwnListsD_calls A c xss W h
      have OB := fun A c xs W h => Own_byte_calls A c xs W h
      have hle := h0.le
      obtain ⟨i0, hi0, _, hz0, _⟩ := info_parts (P := Try.prog) (e := 55) (z := .slice none 0 0) (size := 1) (bytes := 24) (by kernel_rfl)
      obtain ⟨i1, hi1, _, hz1, _⟩ := info_parts (P := Try.prog) (e := 5) (z := .int .u8 0) (size := 1) (bytes := 1) (by kernel_rfl)
      obtain ⟨AD, cutD, hcutD⟩ := cutS_l (P := Try.prog) 33 55 .i64 Try.underlying33 hi0 hz0 A0 t.length c0 q (by omega) hle
      have cutH := cutS_h (P := Try.prog) 33 55 .i64 Try.underlying33 hi0 A0 t.length c0 q (by omega) hle
      obtain ⟨AF, cutF, hcutF, _⟩ := cut_l (P := Try.prog) 26 5 .i64 Try.underlying26 hi1 hz1 (some ⟨gf, 0, none⟩) t.length t.length q (by omega) (Nat.le_refl _)
      have cutG := cutS_h (P := Try.prog) 26 5 .i64 Try.underlying26 hi1 (some ⟨gf, 0, none⟩) t.length t.length q (by omega) (Nat.le_refl _)
      have hsd0 := fun W hW => hcutD W .i64 t rfl hW
      have hsq0 : ∀ W, SlS W .i64 A0 c0 t → SlS W .i64 A0 c0 (t.take q) := fun W hW => hW.take q (by omega)
      have hfd0 : ∀ W, SlI W .u8 (some ⟨gf, 0, none⟩) t.length fc → SlI W .u8 AF (fc.drop q).length (fc.drop q) := fun W hW => by have := hcutF W .u8 fc HFL.out.symm hW; rwa [show t.length - q = (fc.drop q).length by simp [HFL.out]] at this
      have hft0 : ∀ W, SlI W .u8 (some ⟨gf, 0, none⟩) t.length fc → SlI W .u8 (some ⟨gf, 0, none⟩) t.length (fc.take q) := fun W hW => hW.take q t.length (by omega) (Nat.le_refl _)
      have lnd : t.length - q = (t.drop q).length := by simp
      have lnq : q = (t.take q).length := by simp; omega
      have lnf : t.length - q = (fc.drop q).length := by simp [HFL.out]
      have lng : q = (fc.take q).length := by simp [HFL.out]; omega
      have hd1 : (t.drop q).length ≤ 1000000 := by simp; omega
      have hq1 : (t.take q).length ≤ 1000000 := by simp; omega
      have hd2 : ∀ j, j < (t.drop q).length → ((t.drop q).getD j []).length ≤ 1000000 := fun j hj => by
        rw [show (t.drop q).getD j [] = t.getD (q + j) [] from by simp [List.getD_eq_getElem?_getD, List.getElem?_drop]]
        have := (LR.out (q + j) (by simp at hj; omega)).2
        omega
      have hq2 : ∀ j, j < (t.take q).length → ((t.take q).getD j []).length ≤ 1000000 := fun j hj => by
        rw [show (t.take q).getD j [] = t.getD j [] from by rw [List.length_take] at hj; simp [List.getD_eq_getElem?_getD, List.getElem?_take, show j < q by omega]]
        have := (LR.out j (by rw [List.length_take] at hj; omega)).2
        omega
      have HLT := Lib.hid (show (t.drop q).length + (t.take q).length = t.length by simp; omega)
      have HLF := Lib.hid (show (fc.drop q ++ fc.take q).length = t.length by simp [HFL.out]; omega)
      have CKR := Lib.hid (ckT_rot q CK.out)
      have HFR := Lib.hid (show fitsT ((t.drop q ++ t.take q).map List.length) (fc.drop q ++ fc.take q) from by rw [lens_rot]; exact fitsT_rot q (by simp; omega) HF.out)
      have HSR := Lib.hid (sumN_rot t fc q HFL.out (by omega))
      have HLR := Lib.hid (show (t.drop q ++ t.take q).length = t.length by simp; omega)
      have HINC := Lib.hid (fun i x => sumN_inc (i := i) (x := x) HF.out hsn t.length (Nat.le_refl _))
      have HCI := Lib.hid (fun i x h0 h1 => ckT_inc (i := i) (x := x) CK.out hsn h0 h1)
      have HFI := Lib.hid (fun i x => show fitsT ((incT t s i x).map List.length) fc from by rw [incT_lens]; exact HF.out)
      have HNE := Lib.hid (fun i x (hi : i < (t.getD s []).length) hx => decide_eq_false (incT_ne (x := x) hsn hi hx))
      have HIL := Lib.hid (fun i x => incT_length t s i x)
      have HRS := Lib.hid (fun i (hi : i < (t.getD s []).length) => (L3.out s hsn).2.2 i hi)
      have LRS := LR.out s hsn
      have LR1 : ∀ j, j < t.length → (t.getD j []).length ≤ 1000000 := fun j hj => Nat.le_trans (LR.out j hj).2 (by decide)
      have TS2 := fun Ar cr B2 c2 W h k => TSum_fits Ar B2 cr c2 (t.drop q ++ t.take q) (fc.drop q ++ fc.take q) t.length HLR.out W h k CKR.out HFR.out
      rw [HSR.out] at TS2
      rw [lnd] at cutD
      rw [lnf] at cutF
      have HLR1 := Lib.hid LR1
      have HD2 := Lib.hid hd2
      have HQ2 := Lib.hid hq2
      have HQN := Lib.hid lnq
      have HGN := Lib.hid lng
      have cutH' : ∀ W : World, (Instr.slice 33 (.slice A0 t.length c0) none (some (.int .i64 (q : Int))) none).run Try.prog W = .ok (.slice A0 (t.take q).length c0) W := fun W => by rw [← HQN.out]; exact cutH W
      have cutG' : ∀ W : World, (Instr.slice 26 (.slice (some ⟨gf, 0, none⟩) t.length t.length) none (some (.int .i64 (q : Int))) none).run Try.prog W = .ok (.slice (some ⟨gf, 0, none⟩) (fc.take q).length t.length) W := fun W => by rw [← HGN.out]; exact cutG W
      clear lnd lnq lnf lng cutH cutG hcutD hcutF hi0 hz0 hi1 hz1 LR1 hd2 hq2
      generalize t.drop q = td at *
      generalize t.take q = tq at *
      generalize fc.drop q = fd at *
      generalize fc.take q = ft at *
      have htd := HLT.out
      have hfd8 : fd.length + ft.length = t.length := by have := HLF.out; rwa [List.length_append] at this
      generalize hsv : sumN t fc t.length = sv at *
      go_wp2_with fail
      refine (TS1 _ (h0.below bt4) sf).mono ?_
      rintro e V0 ⟨rfl, d1⟩
      have bt5 := below_trans bt4 d1
      replace zb := cell_below d1 _ _ zb
      replace sf := sf.below d1
      clear bt4 d1 TS1
      go_wp2_with fail
      refine (PB _).mono ?_
      rintro e V1 ⟨rfl, rfl⟩
      have hsd := hsd0 _ (h0.below bt5)
      have hsq := hsq0 _ (h0.below bt5)
      have hd2 := HD2.out
      have hq2 := HQ2.out
      generalize hcd : c0 - q = cd at *
      clear hcd hsd0 hsq0
      go_upto_region 12 with fail
      generalize V0 = V1 at *
      go_cut [15] (fun s15 wx => ∃ (g : Nat) (Ar : Option Addr) (cr : Nat), s15 = .pointer (some ⟨g, 0, none⟩) ∧ wx.cell? ⟨g, 0, none⟩ = some (.slice Ar t.length cr) ∧ SlS wx .i64 Ar cr (td ++ tq) ∧ Below V1.heap.size V1 wx)
      case first =>
        refine region_L (oneQ 99 (fun _ => True) (fun X => X.cell? ⟨w.heap.size, 0, none⟩ = some (.slice A0 t.length c0))) hmix ?_
        have hS : oneQ 99 (fun _ => True) (fun X => X.cell? ⟨w.heap.size, 0, none⟩ = some (.slice A0 t.length c0)) (Array.replicate 14 false) V1.drew := ⟨fun _ => trivial, zb⟩
        have z : Below V1.heap.size V1 V1.drew := (Below.refl _ _).drew
        refine anyL_take (fun _ => True) [] (i := 0) (v := ?_) rfl (by kernel_rfl) (by kernel_rfl) (by kernel_rfl) (fun _ _ _ h => h) (by kernel_rfl) (one_ind (i := 0) (by decide)) (fun _ _ _ _ => trivial) (Or.inl ⟨by rfl, ?_⟩) hS ?_
        rotate_left
        · intro X hX
          clear hX
          go_simp
          try with_reducible rfl
        try simp only [List.getElem_toArray, List.getElem_cons_zero, List.getElem_cons_succ]
        simp only [Act.put, List.setIfInBounds_toArray, List.set_cons_zero, List.set_cons_succ]
        replace hS := (one_ind (i := 0) (by decide) _ _).2 hS
        refine anyL_take (fun X => X.cell? ⟨w.heap.size, 0, none⟩ = some (.slice A0 t.length c0)) [] (i := 1) (v := ?_) rfl (by kernel_rfl) (by kernel_rfl) (by kernel_rfl) (fun _ _ _ h => h) (by kernel_rfl) (one_ind (i := 1) (by decide)) (fun L X h1 h2 => h2.2) (Or.inl ⟨by rfl, ?_⟩) hS ?_
        rotate_left
        · intro X hX
          have g0 := hX
          go_simp
          try with_reducible rfl
        try simp only [List.getElem_toArray, List.getElem_cons_zero, List.getElem_cons_succ]
        simp only [Act.put, List.setIfInBounds_toArray, List.set_cons_zero, List.set_cons_succ]
        replace hS := (one_ind (i := 1) (by decide) _ _).2 hS
        refine anyL_take (fun _ => True) [] (i := 2) (v := ?_) rfl (by kernel_rfl) (by kernel_rfl) (by kernel_rfl) (fun _ _ _ h => h) (by kernel_rfl) (one_ind (i := 2) (by decide)) (fun _ _ _ _ => trivial) (Or.inl ⟨by rfl, ?_⟩) hS ?_
        rotate_left
        · intro X hX
          clear hX
          go_simp
          try with_reducible rfl
        try simp only [List.getElem_toArray, List.getElem_cons_zero, List.getElem_cons_succ]
        simp only [Act.put, List.setIfInBounds_toArray, List.set_cons_zero, List.set_cons_succ]
        replace hS := (one_ind (i := 2) (by decide) _ _).2 hS
        refine anyL_take (fun _ => True) [] (i := 3) (v := ?_) rfl (by kernel_rfl) (by kernel_rfl) (by kernel_rfl) (fun _ _ _ h => h) (by kernel_rfl) (one_ind (i := 3) (by decide)) (fun _ _ _ _ => trivial) (Or.inl ⟨by rfl, ?_⟩) hS ?_
        rotate_left
        · intro X hX
          clear hX
          go_simp
          try with_reducible rfl
        try simp only [List.getElem_toArray, List.getElem_cons_zero, List.getElem_cons_succ]
        simp only [Act.put, List.setIfInBounds_toArray, List.set_cons_zero, List.set_cons_succ]
        replace hS := (one_ind (i := 3) (by decide) _ _).2 hS
        refine anyL_take (fun _ => True) [] (i := 5) (v := ?_) rfl (by kernel_rfl) (by kernel_rfl) (by kernel_rfl) (fun _ _ _ h => h) (by kernel_rfl) (one_ind (i := 5) (by decide)) (fun _ _ _ _ => trivial) (Or.inl ⟨by rfl, ?_⟩) hS ?_
        rotate_left
        · intro X hX
          clear hX
          go_simp
          try with_reducible rfl
        try simp only [List.getElem_toArray, List.getElem_cons_zero, List.getElem_cons_succ]
        simp only [Act.put, List.setIfInBounds_toArray, List.set_cons_zero, List.set_cons_succ]
        replace hS := (one_ind (i := 5) (by decide) _ _).2 hS
        refine anyL_take (fun X => X.cell? ⟨w.heap.size, 0, none⟩ = some (.slice A0 t.length c0)) [] (i := 6) (v := ?_) rfl (by kernel_rfl) (by kernel_rfl) (by kernel_rfl) (fun _ _ _ h => h) (by kernel_rfl) (one_ind (i := 6) (by decide)) (fun L X h1 h2 => h2.2) (Or.inl ⟨by rfl, ?_⟩) hS ?_
        rotate_left
        · intro X hX
          have g0 := hX
          go_simp
          try with_reducible rfl
        try simp only [List.getElem_toArray, List.getElem_cons_zero, List.getElem_cons_succ]
        simp only [Act.put, List.setIfInBounds_toArray, List.set_cons_zero, List.set_cons_succ]
        replace hS := (one_ind (i := 6) (by decide) _ _).2 hS
        refine anyL_take (fun _ => True) [] (i := 7) (v := ?_) rfl (by kernel_rfl) (by kernel_rfl) (by kernel_rfl) (fun _ _ _ h => h) (by kernel_rfl) (one_ind (i := 7) (by decide)) (fun _ _ _ _ => trivial) (Or.inl ⟨by rfl, ?_⟩) hS ?_
        rotate_left
        · intro X hX
          clear hX
          go_simp
          try with_reducible rfl
        try simp only [List.getElem_toArray, List.getElem_cons_zero, List.getElem_cons_succ]
        simp only [Act.put, List.setIfInBounds_toArray, List.set_cons_zero, List.set_cons_succ]
        replace hS := (one_ind (i := 7) (by decide) _ _).2 hS
        refine anyL_take (fun _ => True) [] (i := 8) (v := ?_) rfl (by kernel_rfl) (by kernel_rfl) (by kernel_rfl) (fun _ _ _ h => h) (by kernel_rfl) (one_ind (i := 8) (by decide)) (fun _ _ _ _ => trivial) (Or.inl ⟨by rfl, ?_⟩) hS ?_
        rotate_left
        · intro X hX
          clear hX
          go_simp
          try with_reducible rfl
        try simp only [List.getElem_toArray, List.getElem_cons_zero, List.getElem_cons_succ]
        simp only [Act.put, List.setIfInBounds_toArray, List.set_cons_zero, List.set_cons_succ]
        replace hS := (one_ind (i := 8) (by decide) _ _).2 hS
        clear hS
        refine anyL_step2 (i := 4) (j := 12) (by kernel_rfl) rfl rfl (by rfl) (by rfl) (fun K hK => ?_) (fun K hK => ?_)
        · go_simp
          have lV1 := z.size
          refine (OL AD cd td _ (hsd.below z) hd1 hd2).mono ?_
          rintro e v4 ⟨A4, c4, rfl, o4, d4⟩
          replace z := below_trans z d4
          obtain ⟨vs, ov, rv, _⟩ := o4
          have lv4 : ∀ n, (Value.slice A4 vs.length c4).ownBlock = some n → n < v4.heap.size := fun n hn => (ov.lt n hn).2
          have lb4 : ∀ n, (Value.slice A4 vs.length c4).ownBlock = some n → V1.heap.size ≤ n := fun n hn => Nat.le_trans lV1 (own_base ov n hn)
          replace ov := own_mono ov lV1
          replace rv := rv.weaken (ok' := fun n => V1.heap.size ≤ n ∧ n < v4.heap.size ∧ some n ≠ (Value.slice A4 vs.length c4).ownBlock) fun n hn => ⟨by have := hn.1; omega, hn.2⟩
          have l4 := d4.size
          clear lV1
          dsimp only
          refine hK.out _ _ ⟨fun _ => trivial, cell_below z _ _ zb⟩ ?_
          clear hK K d4
          try simp only [Act.put, List.setIfInBounds_toArray, List.set_cons_zero, List.set_cons_succ]
          refine anyL_step2 (i := 9) (j := 12) (by kernel_rfl) rfl rfl (by rfl) (by rfl) (fun K hK => ?_) (fun K hK => ?_)
          · go_simp
            have l9 := z.size
            have l49 : v4.heap.size ≤ v4.heap.size := Nat.le_refl _
            refine (OL A0 c0 tq _ (hsq.below z) hq1 hq2).mono ?_
            rintro e v9 ⟨A9, c9, rfl, o9, d9⟩
            replace z := below_trans z d9
            obtain ⟨us, ou, ru, _⟩ := o9
            replace ov := own_below ov d9
            replace rv := rv.below d9
            replace ru := ru.weaken (ok' := fun n => v4.heap.size ≤ n ∧ n < v9.heap.size) fun n hn => ⟨hn.1, hn.2.1⟩
            have l9b := d9.size
            dsimp only
            refine hK.out _ _ ⟨fun _ => trivial, cell_below z _ _ zb⟩ ?_
            clear hK K d9
            try simp only [Act.put, List.setIfInBounds_toArray, List.set_cons_zero, List.set_cons_succ]
            refine anyL_step2 (i := 10) (j := 12) (by kernel_rfl) rfl rfl (by rfl) (by rfl) (fun K hK => ?_) (fun K hK => ?_)
            · have hvs : vs.length = td.length := rv.1
              have hus : us.length = tq.length := ru.1
              have hvu : (vs ++ us).length = t.length := by rw [List.length_append, hvs, hus]; exact HLT.out
              have lz10 := z.size
              refine wp_app_valsR V1.heap.size _ _ 33 55 (.slice none 0 0) 24 rfl Try.underlying33 (by kernel_rfl) (by decide) rfl A4 c4 td.length tq.length vs us A9 c9 rfl rfl hvs hus ov (OwnV.rd ou) ru.oneCell lz10 (by omega) ?_
              intro B1 d1 vA oA hgA hat
              have sA := ownS_appD rv (fun n hn => hn.2.2) ru (fun n hn hh => by have := lv4 n hh.symm; omega) oA hgA
              replace z : Below V1.heap.size V1 vA := z.grown hgA lz10 (fun n hn => own_base ov n hn)
              rw [hvu]
              refine hK.out _ _ ⟨fun _ => trivial, cell_below z _ _ zb⟩ ?_
              clear hK K hgA hat oA ov rv ou ru
              try simp only [Act.put, List.setIfInBounds_toArray, List.set_cons_zero, List.set_cons_succ]
              have hS : oneQ 99 (fun _ => True) (fun X => X.cell? ⟨w.heap.size, 0, none⟩ = some (.slice A0 t.length c0)) ((((((((((((Array.replicate 14 false).setIfInBounds 0 true).setIfInBounds 1 true).setIfInBounds 2 true).setIfInBounds 3 true).setIfInBounds 5 true).setIfInBounds 6 true).setIfInBounds 7 true).setIfInBounds 8 true).setIfInBounds 4 true).setIfInBounds 9 true).setIfInBounds 10 true) vA := ⟨fun _ => trivial, cell_below z _ _ zb⟩
              refine anyL_take (fun _ => True) [] (i := 11) (v := ?_) rfl (by kernel_rfl) (by kernel_rfl) (by kernel_rfl) (fun _ _ _ h => h) (by kernel_rfl) (one_ind (i := 11) (by decide)) (fun _ _ _ _ => trivial) (Or.inl ⟨by rfl, ?_⟩) hS ?_
              rotate_left
              · intro X hX
                clear hX
                go_simp
                try with_reducible rfl
              try simp only [List.getElem_toArray, List.getElem_cons_zero, List.getElem_cons_succ]
              simp only [Act.put, List.setIfInBounds_toArray, List.set_cons_zero, List.set_cons_succ]
              replace hS := (one_ind (i := 11) (by decide) _ _).2 hS
              clear hS
              refine anyL_step (i := 12) (by kernel_rfl) rfl (by rfl) (fun K hK => ?_)
              go_simp
              have lz : V1.heap.size ≤ vA.heap.size := z.size
              have bx : Boxed (vA.alloc (.cells #[.slice none 0 0] 35)) vA.heap.size 35 (.slice none 0 0) := Boxed.new vA 35 (.slice none 0 0)
              have bu : Below vA.heap.size vA (vA.alloc (.cells #[.slice none 0 0] 35)) := below_box (w := vA) (.cells #[.slice none 0 0] 35)
              replace z : Below V1.heap.size V1 (vA.alloc (.cells #[.slice none 0 0] 35)) := below_alloc z (.cells #[.slice none 0 0] 35)
              have lg : vA.heap.size < (vA.alloc (.cells #[.slice none 0 0] 35)).heap.size := by simp
              refine hK.out _ _ ⟨fun _ => trivial, cell_below z _ _ zb⟩ ?_
              clear hK K
              try simp only [Act.put, List.setIfInBounds_toArray, List.set_cons_zero, List.set_cons_succ]
              generalize vA.alloc (.cells #[.slice none 0 0] 35) = u at *
              have g9 := bx.cell
              have f9 := bx.frozen
              refine anyL_step (i := 13) (by kernel_rfl) rfl (by rfl) (fun K hK => ?_)
              go_simp
              have by_ := bx.set (.slice B1 t.length d1)
              replace sA := sA.below (bu.setCell (p := ⟨vA.heap.size, 0, none⟩) (Nat.le_refl _) (.slice B1 t.length d1))
              replace z := z.setCell (p := ⟨vA.heap.size, 0, none⟩) lz (.slice B1 t.length d1)
              refine hK.out _ _ ⟨fun _ => trivial, cell_below z _ _ zb⟩ ?_
              clear hK K
              try simp only [Act.put, List.setIfInBounds_toArray, List.set_cons_zero, List.set_cons_succ]
              refine anyL_done (by kernel_rfl) ?_ _
              go_wp2_with fail
              go_meet
              exact ⟨_, B1, d1, rfl, by_.cell, sA, z⟩
            · go_simp
              have lz : V1.heap.size ≤ v9.heap.size := z.size
              have bx : Boxed (v9.alloc (.cells #[.slice none 0 0] 35)) v9.heap.size 35 (.slice none 0 0) := Boxed.new v9 35 (.slice none 0 0)
              have bu : Below v9.heap.size v9 (v9.alloc (.cells #[.slice none 0 0] 35)) := below_box (w := v9) (.cells #[.slice none 0 0] 35)
              replace z : Below V1.heap.size V1 (v9.alloc (.cells #[.slice none 0 0] 35)) := below_alloc z (.cells #[.slice none 0 0] 35)
              have lg : v9.heap.size < (v9.alloc (.cells #[.slice none 0 0] 35)).heap.size := by simp
              replace ov := own_below ov bu
              replace rv := rv.below bu
              replace ou := own_below ou bu
              replace ru := ru.below bu
              refine hK.out _ _ ⟨fun _ => trivial, cell_below z _ _ zb⟩ ?_
              clear hK K
              try simp only [Act.put, List.setIfInBounds_toArray, List.set_cons_zero, List.set_cons_succ]
              generalize v9.alloc (.cells #[.slice none 0 0] 35) = u at *
              refine anyL_step (i := 10) (by kernel_rfl) rfl (by rfl) (fun K hK => ?_)
              have hvs : vs.length = td.length := rv.1
              have hus : us.length = tq.length := ru.1
              have hvu : (vs ++ us).length = t.length := by rw [List.length_append, hvs, hus]; exact HLT.out
              have lz10 := z.size
              refine wp_app_valsR V1.heap.size _ _ 33 55 (.slice none 0 0) 24 rfl Try.underlying33 (by kernel_rfl) (by decide) rfl A4 c4 td.length tq.length vs us A9 c9 rfl rfl hvs hus ov (OwnV.rd ou) ru.oneCell lz10 (by omega) ?_
              intro B1 d1 vA oA hgA hat
              have sA := ownS_appK (g := v9.heap.size) ov rv (fun n hn => hn.2.2) ru (fun n hn hh => by have := lv4 n hh.symm; omega) oA hgA hat (fun n hn => by omega) (fun n hn => by omega) (fun n hn => by have := lv4 n hn; have := lb4 n hn; omega) (by omega)
              replace bx := bx.kept hgA (fun hh => by have := lv4 _ hh.symm; have := lb4 _ hh.symm; omega)
              replace z : Below V1.heap.size V1 vA := z.grown hgA lz10 (fun n hn => own_base ov n hn)
              rw [hvu]
              refine hK.out _ _ ⟨fun _ => trivial, cell_below z _ _ zb⟩ ?_
              clear hK K hgA hat oA ov rv ou ru
              try simp only [Act.put, List.setIfInBounds_toArray, List.set_cons_zero, List.set_cons_succ]
              have hS : oneQ 99 (fun _ => True) (fun X => X.cell? ⟨w.heap.size, 0, none⟩ = some (.slice A0 t.length c0)) (((((((((((((Array.replicate 14 false).setIfInBounds 0 true).setIfInBounds 1 true).setIfInBounds 2 true).setIfInBounds 3 true).setIfInBounds 5 true).setIfInBounds 6 true).setIfInBounds 7 true).setIfInBounds 8 true).setIfInBounds 4 true).setIfInBounds 9 true).setIfInBounds 12 true).setIfInBounds 10 true) vA := ⟨fun _ => trivial, cell_below z _ _ zb⟩
              refine anyL_take (fun _ => True) [] (i := 11) (v := ?_) rfl (by kernel_rfl) (by kernel_rfl) (by kernel_rfl) (fun _ _ _ h => h) (by kernel_rfl) (one_ind (i := 11) (by decide)) (fun _ _ _ _ => trivial) (Or.inl ⟨by rfl, ?_⟩) hS ?_
              rotate_left
              · intro X hX
                clear hX
                go_simp
                try with_reducible rfl
              try simp only [List.getElem_toArray, List.getElem_cons_zero, List.getElem_cons_succ]
              simp only [Act.put, List.setIfInBounds_toArray, List.set_cons_zero, List.set_cons_succ]
              replace hS := (one_ind (i := 11) (by decide) _ _).2 hS
              clear hS
              have g9 := bx.cell
              have f9 := bx.frozen
              refine anyL_step (i := 13) (by kernel_rfl) rfl (by rfl) (fun K hK => ?_)
              go_simp
              have by_ := bx.set (.slice B1 t.length d1)
              replace sA := sA.kept (grownBy_setCell' vA (v9.heap.size) (.slice B1 t.length d1)) (fun n hn => by simpa using hn)
              replace z := z.setCell (p := ⟨v9.heap.size, 0, none⟩) lz (.slice B1 t.length d1)
              refine hK.out _ _ ⟨fun _ => trivial, cell_below z _ _ zb⟩ ?_
              clear hK K
              try simp only [Act.put, List.setIfInBounds_toArray, List.set_cons_zero, List.set_cons_succ]
              refine anyL_done (by kernel_rfl) ?_ _
              go_wp2_with fail
              go_meet
              exact ⟨_, B1, d1, rfl, by_.cell, sA.sl, z⟩
          · go_simp
            have lz : V1.heap.size ≤ v4.heap.size := z.size
            have bx : Boxed (v4.alloc (.cells #[.slice none 0 0] 35)) v4.heap.size 35 (.slice none 0 0) := Boxed.new v4 35 (.slice none 0 0)
            have bu : Below v4.heap.size v4 (v4.alloc (.cells #[.slice none 0 0] 35)) := below_box (w := v4) (.cells #[.slice none 0 0] 35)
            replace z : Below V1.heap.size V1 (v4.alloc (.cells #[.slice none 0 0] 35)) := below_alloc z (.cells #[.slice none 0 0] 35)
            have lg : v4.heap.size < (v4.alloc (.cells #[.slice none 0 0] 35)).heap.size := by simp
            replace ov := own_below ov bu
            replace rv := rv.below bu
            refine hK.out _ _ ⟨fun _ => trivial, cell_below z _ _ zb⟩ ?_
            clear hK K
            try simp only [Act.put, List.setIfInBounds_toArray, List.set_cons_zero, List.set_cons_succ]
            generalize v4.alloc (.cells #[.slice none 0 0] 35) = u at *
            refine anyL_step (i := 9) (by kernel_rfl) rfl (by rfl) (fun K hK => ?_)
            go_simp
            have l9 := z.size
            have l49 : v4.heap.size ≤ u.heap.size := by have := bu.size; simpa using this
            refine (OL A0 c0 tq _ (hsq.below z) hq1 hq2).mono ?_
            rintro e v9 ⟨A9, c9, rfl, o9, d9⟩
            replace z := below_trans z d9
            replace bx := bx.kept (grown_of_below d9 none) (by simp)
            obtain ⟨us, ou, ru, _⟩ := o9
            replace ov := own_below ov d9
            replace rv := rv.below d9
            replace ru := ru.weaken (ok' := fun n => u.heap.size ≤ n ∧ n < v9.heap.size) fun n hn => ⟨hn.1, hn.2.1⟩
            have l9b := d9.size
            dsimp only
            refine hK.out _ _ ⟨fun _ => trivial, cell_below z _ _ zb⟩ ?_
            clear hK K d9
            try simp only [Act.put, List.setIfInBounds_toArray, List.set_cons_zero, List.set_cons_succ]
            refine anyL_step (i := 10) (by kernel_rfl) rfl (by rfl) (fun K hK => ?_)
            have hvs : vs.length = td.length := rv.1
            have hus : us.length = tq.length := ru.1
            have hvu : (vs ++ us).length = t.length := by rw [List.length_append, hvs, hus]; exact HLT.out
            have lz10 := z.size
            refine wp_app_valsR V1.heap.size _ _ 33 55 (.slice none 0 0) 24 rfl Try.underlying33 (by kernel_rfl) (by decide) rfl A4 c4 td.length tq.length vs us A9 c9 rfl rfl hvs hus ov (OwnV.rd ou) ru.oneCell lz10 (by omega) ?_
            intro B1 d1 vA oA hgA hat
            have sA := ownS_appK (g := v4.heap.size) ov rv (fun n hn => hn.2.2) ru (fun n hn hh => by have := lv4 n hh.symm; omega) oA hgA hat (fun n hn => by omega) (fun n hn => by omega) (fun n hn => by have := lv4 n hn; have := lb4 n hn; omega) (by omega)
            replace bx := bx.kept hgA (fun hh => by have := lv4 _ hh.symm; have := lb4 _ hh.symm; omega)
            replace z : Below V1.heap.size V1 vA := z.grown hgA lz10 (fun n hn => own_base ov n hn)
            rw [hvu]
            refine hK.out _ _ ⟨fun _ => trivial, cell_below z _ _ zb⟩ ?_
            clear hK K hgA hat oA ov rv ou ru
            try simp only [Act.put, List.setIfInBounds_toArray, List.set_cons_zero, List.set_cons_succ]
            have hS : oneQ 99 (fun _ => True) (fun X => X.cell? ⟨w.heap.size, 0, none⟩ = some (.slice A0 t.length c0)) (((((((((((((Array.replicate 14 false).setIfInBounds 0 true).setIfInBounds 1 true).setIfInBounds 2 true).setIfInBounds 3 true).setIfInBounds 5 true).setIfInBounds 6 true).setIfInBounds 7 true).setIfInBounds 8 true).setIfInBounds 4 true).setIfInBounds 12 true).setIfInBounds 9 true).setIfInBounds 10 true) vA := ⟨fun _ => trivial, cell_below z _ _ zb⟩
            refine anyL_take (fun _ => True) [] (i := 11) (v := ?_) rfl (by kernel_rfl) (by kernel_rfl) (by kernel_rfl) (fun _ _ _ h => h) (by kernel_rfl) (one_ind (i := 11) (by decide)) (fun _ _ _ _ => trivial) (Or.inl ⟨by rfl, ?_⟩) hS ?_
            rotate_left
            · intro X hX
              clear hX
              go_simp
              try with_reducible rfl
            try simp only [List.getElem_toArray, List.getElem_cons_zero, List.getElem_cons_succ]
            simp only [Act.put, List.setIfInBounds_toArray, List.set_cons_zero, List.set_cons_succ]
            replace hS := (one_ind (i := 11) (by decide) _ _).2 hS
            clear hS
            have g9 := bx.cell
            have f9 := bx.frozen
            refine anyL_step (i := 13) (by kernel_rfl) rfl (by rfl) (fun K hK => ?_)
            go_simp
            have by_ := bx.set (.slice B1 t.length d1)
            replace sA := sA.kept (grownBy_setCell' vA (v4.heap.size) (.slice B1 t.length d1)) (fun n hn => by simpa using hn)
            replace z := z.setCell (p := ⟨v4.heap.size, 0, none⟩) lz (.slice B1 t.length d1)
            refine hK.out _ _ ⟨fun _ => trivial, cell_below z _ _ zb⟩ ?_
            clear hK K
            try simp only [Act.put, List.setIfInBounds_toArray, List.set_cons_zero, List.set_cons_succ]
            refine anyL_done (by kernel_rfl) ?_ _
            go_wp2_with fail
            go_meet
            exact ⟨_, B1, d1, rfl, by_.cell, sA.sl, z⟩
        · go_simp
          have lz : V1.heap.size ≤ V1.heap.size := z.size
          have bx : Boxed ((V1.alloc (.cells #[.slice none 0 0] 35)).drew) V1.heap.size 35 (.slice none 0 0) := Boxed.new V1.drew 35 (.slice none 0 0)
          have bu : Below V1.drew.heap.size V1.drew ((V1.alloc (.cells #[.slice none 0 0] 35)).drew) := below_box (w := V1.drew) (.cells #[.slice none 0 0] 35)
          replace z : Below V1.heap.size V1 ((V1.alloc (.cells #[.slice none 0 0] 35)).drew) := below_alloc z (.cells #[.slice none 0 0] 35)
          have lg : V1.heap.size < ((V1.alloc (.cells #[.slice none 0 0] 35)).drew).heap.size := by simp
          refine hK.out _ _ ⟨fun _ => trivial, cell_below z _ _ zb⟩ ?_
          clear hK K
          try simp only [Act.put, List.setIfInBounds_toArray, List.set_cons_zero, List.set_cons_succ]
          generalize (V1.alloc (.cells #[.slice none 0 0] 35)).drew = u at *
          refine anyL_step (i := 4) (by kernel_rfl) rfl (by rfl) (fun K hK => ?_)
          go_simp
          have lV1 := z.size
          refine (OL AD cd td _ (hsd.below z) hd1 hd2).mono ?_
          rintro e v4 ⟨A4, c4, rfl, o4, d4⟩
          replace z := below_trans z d4
          replace bx := bx.kept (grown_of_below d4 none) (by simp)
          obtain ⟨vs, ov, rv, _⟩ := o4
          have lv4 : ∀ n, (Value.slice A4 vs.length c4).ownBlock = some n → n < v4.heap.size := fun n hn => (ov.lt n hn).2
          have lb4 : ∀ n, (Value.slice A4 vs.length c4).ownBlock = some n → V1.heap.size ≤ n := fun n hn => Nat.le_trans lV1 (own_base ov n hn)
          have lw4 : ∀ n, (Value.slice A4 vs.length c4).ownBlock = some n → u.heap.size ≤ n := fun n hn => own_base ov n hn
          replace rv := rv.weaken (ok' := fun n => u.heap.size ≤ n ∧ n < v4.heap.size ∧ some n ≠ (Value.slice A4 vs.length c4).ownBlock) fun n hn => hn
          replace ov := own_mono ov lV1
          replace rv := rv.weaken (ok' := fun n => u.heap.size ≤ n ∧ n < v4.heap.size ∧ some n ≠ (Value.slice A4 vs.length c4).ownBlock) fun n hn => ⟨by have := hn.1; omega, hn.2⟩
          have l4 := d4.size
          clear lV1
          dsimp only
          refine hK.out _ _ ⟨fun _ => trivial, cell_below z _ _ zb⟩ ?_
          clear hK K d4
          try simp only [Act.put, List.setIfInBounds_toArray, List.set_cons_zero, List.set_cons_succ]
          refine anyL_step (i := 9) (by kernel_rfl) rfl (by rfl) (fun K hK => ?_)
          go_simp
          have l9 := z.size
          have l49 : v4.heap.size ≤ v4.heap.size := Nat.le_refl _
          refine (OL A0 c0 tq _ (hsq.below z) hq1 hq2).mono ?_
          rintro e v9 ⟨A9, c9, rfl, o9, d9⟩
          replace z := below_trans z d9
          replace bx := bx.kept (grown_of_below d9 none) (by simp)
          obtain ⟨us, ou, ru, _⟩ := o9
          replace ov := own_below ov d9
          replace rv := rv.below d9
          replace ru := ru.weaken (ok' := fun n => v4.heap.size ≤ n ∧ n < v9.heap.size) fun n hn => ⟨hn.1, hn.2.1⟩
          have l9b := d9.size
          dsimp only
          refine hK.out _ _ ⟨fun _ => trivial, cell_below z _ _ zb⟩ ?_
          clear hK K d9
          try simp only [Act.put, List.setIfInBounds_toArray, List.set_cons_zero, List.set_cons_succ]
          refine anyL_step (i := 10) (by kernel_rfl) rfl (by rfl) (fun K hK => ?_)
          have hvs : vs.length = td.length := rv.1
          have hus : us.length = tq.length := ru.1
          have hvu : (vs ++ us).length = t.length := by rw [List.length_append, hvs, hus]; exact HLT.out
          have lz10 := z.size
          refine wp_app_valsR V1.heap.size _ _ 33 55 (.slice none 0 0) 24 rfl Try.underlying33 (by kernel_rfl) (by decide) rfl A4 c4 td.length tq.length vs us A9 c9 rfl rfl hvs hus ov (OwnV.rd ou) ru.oneCell lz10 (by omega) ?_
          intro B1 d1 vA oA hgA hat
          have sA := ownS_appK (g := V1.heap.size) ov rv (fun n hn => hn.2.2) ru (fun n hn hh => by have := lv4 n hh.symm; omega) oA hgA hat (fun n hn => by omega) (fun n hn => by omega) (fun n hn => by have := lv4 n hn; have := lb4 n hn; have := lw4 n hn; omega) (by omega)
          replace bx := bx.kept hgA (fun hh => by have := lv4 _ hh.symm; have := lb4 _ hh.symm; have := lw4 _ hh.symm; omega)
          replace z : Below V1.heap.size V1 vA := z.grown hgA lz10 (fun n hn => own_base ov n hn)
          rw [hvu]
          refine hK.out _ _ ⟨fun _ => trivial, cell_below z _ _ zb⟩ ?_
          clear hK K hgA hat oA ov rv ou ru
          try simp only [Act.put, List.setIfInBounds_toArray, List.set_cons_zero, List.set_cons_succ]
          have hS : oneQ 99 (fun _ => True) (fun X => X.cell? ⟨w.heap.size, 0, none⟩ = some (.slice A0 t.length c0)) (((((((((((((Array.replicate 14 false).setIfInBounds 0 true).setIfInBounds 1 true).setIfInBounds 2 true).setIfInBounds 3 true).setIfInBounds 5 true).setIfInBounds 6 true).setIfInBounds 7 true).setIfInBounds 8 true).setIfInBounds 12 true).setIfInBounds 4 true).setIfInBounds 9 true).setIfInBounds 10 true) vA := ⟨fun _ => trivial, cell_below z _ _ zb⟩
          refine anyL_take (fun _ => True) [] (i := 11) (v := ?_) rfl (by kernel_rfl) (by kernel_rfl) (by kernel_rfl) (fun _ _ _ h => h) (by kernel_rfl) (one_ind (i := 11) (by decide)) (fun _ _ _ _ => trivial) (Or.inl ⟨by rfl, ?_⟩) hS ?_
          rotate_left
          · intro X hX
            clear hX
            go_simp
            try with_reducible rfl
          try simp only [List.getElem_toArray, List.getElem_cons_zero, List.getElem_cons_succ]
          simp only [Act.put, List.setIfInBounds_toArray, List.set_cons_zero, List.set_cons_succ]
          replace hS := (one_ind (i := 11) (by decide) _ _).2 hS
          clear hS
          have g9 := bx.cell
          have f9 := bx.frozen
          refine anyL_step (i := 13) (by kernel_rfl) rfl (by rfl) (fun K hK => ?_)
          go_simp
          have by_ := bx.set (.slice B1 t.length d1)
          replace sA := sA.kept (grownBy_setCell' vA (V1.heap.size) (.slice B1 t.length d1)) (fun n hn => by simpa using hn)
          replace z := z.setCell (p := ⟨V1.heap.size, 0, none⟩) lz (.slice B1 t.length d1)
          refine hK.out _ _ ⟨fun _ => trivial, cell_below z _ _ zb⟩ ?_
          clear hK K
          try simp only [Act.put, List.setIfInBounds_toArray, List.set_cons_zero, List.set_cons_succ]
          refine anyL_done (by kernel_rfl) ?_ _
          go_wp2_with fail
          go_meet
          exact ⟨_, B1, d1, rfl, by_.cell, sA.sl, z⟩
      case rest =>
        clear hsd hsq hd1 hd2 hq1 hq2 cutD cutH'
        obtain ⟨gt, Ar, cr, rfl, zt, hsr, bz⟩ := hcut
        have bt6 := below_trans bt5 bz
        replace zb := cell_below bz _ _ zb
        replace sf := sf.below bz
        clear bt5 bz
        have hfd := hfd0 _ sf
        have hft := hft0 _ sf
        clear hfd0 hft0
        generalize hV2 : wc = V2 at *
        clear hV2
        go_upto_region 13 with fail
        refine region_L (oneQ 99 (fun _ => True) (fun X => X.cell? ⟨gt, 0, none⟩ = some (.slice Ar t.length cr))) hmix ?_
        have hS : oneQ 99 (fun _ => True) (fun X => X.cell? ⟨gt, 0, none⟩ = some (.slice Ar t.length cr)) (Array.replicate 15 false) V2.drew := ⟨fun _ => trivial, zt⟩
        have z : Below V2.heap.size V2 V2.drew := (Below.refl _ _).drew
        refine anyL_take (fun X => X.cell? ⟨gt, 0, none⟩ = some (.slice Ar t.length cr)) [] (i := 0) (v := ?_) rfl (by kernel_rfl) (by kernel_rfl) (by kernel_rfl) (fun _ _ _ h => h) (by kernel_rfl) (one_ind (i := 0) (by decide)) (fun L X h1 h2 => h2.2) (Or.inl ⟨by rfl, ?_⟩) hS ?_
        rotate_left
        · intro X hX
          have g0 := hX
          go_simp
          try with_reducible rfl
        try simp only [List.getElem_toArray, List.getElem_cons_zero, List.getElem_cons_succ]
        simp only [Act.put, List.setIfInBounds_toArray, List.set_cons_zero, List.set_cons_succ]
        replace hS := (one_ind (i := 0) (by decide) _ _).2 hS
        refine anyL_take (fun _ => True) [] (i := 1) (v := ?_) rfl (by kernel_rfl) (by kernel_rfl) (by kernel_rfl) (fun _ _ _ h => h) (by kernel_rfl) (one_ind (i := 1) (by decide)) (fun _ _ _ _ => trivial) (Or.inl ⟨by rfl, ?_⟩) hS ?_
        rotate_left
        · intro X hX
          clear hX
          go_simp
          try with_reducible rfl
        try simp only [List.getElem_toArray, List.getElem_cons_zero, List.getElem_cons_succ]
        simp only [Act.put, List.setIfInBounds_toArray, List.set_cons_zero, List.set_cons_succ]
        replace hS := (one_ind (i := 1) (by decide) _ _).2 hS
        refine anyL_take (fun _ => True) [] (i := 2) (v := ?_) rfl (by kernel_rfl) (by kernel_rfl) (by kernel_rfl) (fun _ _ _ h => h) (by kernel_rfl) (one_ind (i := 2) (by decide)) (fun _ _ _ _ => trivial) (Or.inl ⟨by rfl, ?_⟩) hS ?_
        rotate_left
        · intro X hX
          clear hX
          go_simp
          try with_reducible rfl
        try simp only [List.getElem_toArray, List.getElem_cons_zero, List.getElem_cons_succ]
        simp only [Act.put, List.setIfInBounds_toArray, List.set_cons_zero, List.set_cons_succ]
        replace hS := (one_ind (i := 2) (by decide) _ _).2 hS
        refine anyL_take (fun _ => True) [] (i := 3) (v := ?_) rfl (by kernel_rfl) (by kernel_rfl) (by kernel_rfl) (fun _ _ _ h => h) (by kernel_rfl) (one_ind (i := 3) (by decide)) (fun _ _ _ _ => trivial) (Or.inl ⟨by rfl, ?_⟩) hS ?_
        rotate_left
        · intro X hX
          clear hX
          go_simp
          try with_reducible rfl
        try simp only [List.getElem_toArray, List.getElem_cons_zero, List.getElem_cons_succ]
        simp only [Act.put, List.setIfInBounds_toArray, List.set_cons_zero, List.set_cons_succ]
        replace hS := (one_ind (i := 3) (by decide) _ _).2 hS
        refine anyL_take (fun _ => True) [] (i := 5) (v := ?_) rfl (by kernel_rfl) (by kernel_rfl) (by kernel_rfl) (fun _ _ _ h => h) (by kernel_rfl) (one_ind (i := 5) (by decide)) (fun _ _ _ _ => trivial) (Or.inl ⟨by rfl, ?_⟩) hS ?_
        rotate_left
        · intro X hX
          clear hX
          go_simp
          try with_reducible rfl
        try simp only [List.getElem_toArray, List.getElem_cons_zero, List.getElem_cons_succ]
        simp only [Act.put, List.setIfInBounds_toArray, List.set_cons_zero, List.set_cons_succ]
        replace hS := (one_ind (i := 5) (by decide) _ _).2 hS
        refine anyL_take (fun _ => True) [] (i := 6) (v := ?_) rfl (by kernel_rfl) (by kernel_rfl) (by kernel_rfl) (fun _ _ _ h => h) (by kernel_rfl) (one_ind (i := 6) (by decide)) (fun _ _ _ _ => trivial) (Or.inl ⟨by rfl, ?_⟩) hS ?_
        rotate_left
        · intro X hX
          clear hX
          go_simp
          try with_reducible rfl
        try simp only [List.getElem_toArray, List.getElem_cons_zero, List.getElem_cons_succ]
        simp only [Act.put, List.setIfInBounds_toArray, List.set_cons_zero, List.set_cons_succ]
        replace hS := (one_ind (i := 6) (by decide) _ _).2 hS
        refine anyL_take (fun _ => True) [] (i := 7) (v := ?_) rfl (by kernel_rfl) (by kernel_rfl) (by kernel_rfl) (fun _ _ _ h => h) (by kernel_rfl) (one_ind (i := 7) (by decide)) (fun _ _ _ _ => trivial) (Or.inl ⟨by rfl, ?_⟩) hS ?_
        rotate_left
        · intro X hX
          clear hX
          go_simp
          try with_reducible rfl
        try simp only [List.getElem_toArray, List.getElem_cons_zero, List.getElem_cons_succ]
        simp only [Act.put, List.setIfInBounds_toArray, List.set_cons_zero, List.set_cons_succ]
        replace hS := (one_ind (i := 7) (by decide) _ _).2 hS
        clear hS
        refine anyL_step (i := 4) (by kernel_rfl) rfl (by rfl) (fun K hK => ?_)
        go_simp
        have lz := z.size
        refine (OB AF fd.length fd _ (hfd.below z) (by omega)).mono ?_
        rintro e v4 ⟨A4, c4, rfl, o4, d4⟩
        replace z := below_trans z d4
        dsimp only
        refine hK.out _ _ ⟨fun _ => trivial, cell_below z _ _ zt⟩ ?_
        clear hK K d4
        try simp only [Act.put, List.setIfInBounds_toArray, List.set_cons_zero, List.set_cons_succ]
        refine anyL_step (i := 8) (by kernel_rfl) rfl (by rfl) (fun K hK => ?_)
        have lz2 := z.size
        refine wp_app_row V2.heap.size _ _ 26 5 .u8 1 rfl Try.underlying26 (by kernel_rfl) (by decide) A4 c4 fd ft (some ⟨gf, 0, none⟩) t.length rfl rfl (own_mono o4 lz) (hft.below z).rd lz2 (by omega) ?_
        intro B2 c2 v8 o8 hg8 _ _
        replace z : Below V2.heap.size V2 v8 := z.grown hg8 lz2 (fun n hn => own_base (own_mono o4 lz) n hn)
        have s8 := OwnI.sl o8
        rw [HLF.out]
        refine hK.out _ _ ⟨fun _ => trivial, cell_below z _ _ zt⟩ ?_
        clear hK K hg8 o8 o4
        try simp only [Act.put, List.setIfInBounds_toArray, List.set_cons_zero, List.set_cons_succ]
        refine anyL_step (i := 9) (by kernel_rfl) rfl (by rfl) (fun K hK => ?_)
        go_simp
        refine (TS2 Ar cr B2 c2 _ (hsr.below z) s8).mono ?_
        rintro e v9 ⟨rfl, d9⟩
        replace z := below_trans z d9
        dsimp only
        refine hK.out _ _ ⟨fun _ => trivial, cell_below z _ _ zt⟩ ?_
        clear hK K d9 s8
        try simp only [Act.put, List.setIfInBounds_toArray, List.set_cons_zero, List.set_cons_succ]
        have hS : oneQ 99 (fun _ => True) (fun X => X.cell? ⟨gt, 0, none⟩ = some (.slice Ar t.length cr)) (((((((((((Array.replicate 15 false).setIfInBounds 0 true).setIfInBounds 1 true).setIfInBounds 2 true).setIfInBounds 3 true).setIfInBounds 5 true).setIfInBounds 6 true).setIfInBounds 7 true).setIfInBounds 4 true).setIfInBounds 8 true).setIfInBounds 9 true) v9 := ⟨fun _ => trivial, cell_below z _ _ zt⟩
        refine anyL_take (fun _ => True) [] (i := 10) (v := ?_) rfl (by kernel_rfl) (by kernel_rfl) (by kernel_rfl) (fun _ _ _ h => h) (by kernel_rfl) (one_ind (i := 10) (by decide)) (fun _ _ _ _ => trivial) (Or.inl ⟨by rfl, ?_⟩) hS ?_
        rotate_left
        · intro X hX
          clear hX
          go_simp
          try with_reducible rfl
        try simp only [List.getElem_toArray, List.getElem_cons_zero, List.getElem_cons_succ]
        simp only [Act.put, List.setIfInBounds_toArray, List.set_cons_zero, List.set_cons_succ]
        replace hS := (one_ind (i := 10) (by decide) _ _).2 hS
        refine anyL_take (fun _ => True) [] (i := 11) (v := ?_) rfl (by kernel_rfl) (by kernel_rfl) (by kernel_rfl) (fun _ _ _ h => h) (by kernel_rfl) (one_ind (i := 11) (by decide)) (fun _ _ _ _ => trivial) (Or.inl ⟨by rfl, ?_⟩) hS ?_
        rotate_left
        · intro X hX
          clear hX
          go_simp
          try with_reducible rfl
        try simp only [List.getElem_toArray, List.getElem_cons_zero, List.getElem_cons_succ]
        simp only [Act.put, List.setIfInBounds_toArray, List.set_cons_zero, List.set_cons_succ]
        replace hS := (one_ind (i := 11) (by decide) _ _).2 hS
        refine anyL_take (fun _ => True) [] (i := 12) (v := ?_) rfl (by kernel_rfl) (by kernel_rfl) (by kernel_rfl) (fun _ _ _ h => h) (by kernel_rfl) (one_ind (i := 12) (by decide)) (fun _ _ _ _ => trivial) (Or.inl ⟨by rfl, ?_⟩) hS ?_
        rotate_left
        · intro X hX
          clear hX
          go_simp
          try with_reducible rfl
        try simp only [List.getElem_toArray, List.getElem_cons_zero, List.getElem_cons_succ]
        simp only [Act.put, List.setIfInBounds_toArray, List.set_cons_zero, List.set_cons_succ]
        replace hS := (one_ind (i := 12) (by decide) _ _).2 hS
        clear hS
        refine anyL_step (i := 13) (by kernel_rfl) rfl (by rfl) (fun K hK => ?_)
        go_simp
        refine hK.out _ _ ⟨fun _ => trivial, cell_below z _ _ zt⟩ ?_
        clear hK K
        try simp only [Act.put, List.setIfInBounds_toArray, List.set_cons_zero, List.set_cons_succ]
        refine anyL_step (i := 14) (by kernel_rfl) rfl (by rfl) (fun K hK => ?_)
        go_simp
        refine hK.out _ _ ⟨fun _ => trivial, cell_below z _ _ zt⟩ ?_
        clear hK K
        try simp only [Act.put, List.setIfInBounds_toArray, List.set_cons_zero, List.set_cons_succ]
        refine anyL_done (by kernel_rfl) ?_ _
        have bt7 := below_trans bt6 z
        replace zb := cell_below z _ _ zb
        replace sf := sf.below z
        clear z bt6 zt hsr hfd hft cutF cutG' TS2
        have ksv : (sv != sv) = false := by simp
        have hLR1 := HLR1.out
        go_wp2_with fail
        refine (OL A0 c0 t _ (h0.below bt7) (by omega) hLR1).mono ?_
        rintro e V3 ⟨Am, cm, rfl, om, d3⟩
        have b9 : Below v9.heap.size v9 (V3.alloc (.cells #[.slice Am t.length cm] 35)) := below_alloc d3 (.cells #[.slice Am t.length cm] 35)
        have zm := Boxed.new V3 35 (.slice Am t.length cm)
        have om3 := om
        have bb3 := below_box (w := V3) (.cells #[.slice Am t.length cm] 35)
        replace om := om.below bb3
        have l93 := d3.size
        have bt8 := below_trans bt7 b9
        clear d3 OL
        have zmc := zm.cell
        go_wp2_with fail
        generalize hW4 : V3.alloc (.cells #[.slice Am t.length cm] 35) = W4 at *
        clear hW4
        refine (PP _).mono ?_
        rintro e V4 ⟨rfl, rfl⟩
        have hlr := LRS
        have hw0 := Int.emod_nonneg word (show ((t.getD s []).length : Int) ≠ 0 by omega)
        have hw1 := Int.emod_lt_of_pos word (show 0 < ((t.getD s []).length : Int) by omega)
        obtain ⟨i, hi⟩ : ∃ i : Nat, word % ((t.getD s []).length : Int) = (i : Int) := ⟨(word % ((t.getD s []).length : Int)).toNat, by omega⟩
        have hin : i < (t.getD s []).length := by omega
        have PW := fun W => Pick_calls word ((t.getD s []).length : Int) W (by omega) (by omega)
        rw [hi] at PW
        clear hi hw0 hw1
        obtain ⟨ad3, g3, d3, e3, hc3, _, _, _, lg3, _, _⟩ := om3.put s i hsn hin
        have hc3' := cell_below bb3 _ _ hc3
        obtain ⟨ad, g, d, rfl, hcell, oc1, oc2, g1, g2, hgr, HS⟩ := om.put s i hsn hin
        injection e3 with e3
        subst e3
        rw [hcell] at hc3'
        injection hc3' with hc3'
        injection hc3' with hc3' _ _
        injection hc3' with hc3'
        injection hc3' with hc3' _ _
        subst hc3'
        clear hc3 om3 bb3 om
        have hx := HRS.out i hin
        have HS : Hid (∀ x, SlS (W4.setCell ⟨g, i, none⟩ (.int .i64 x)) .i64 (some ad) cm (incT t s i x)) := Lib.hid HS
        have hgr := Lib.hid hgr
        have HIN := Lib.hid hin
        have i1 : (s : Int) < (t.length : Int) := by omega
        have i2 : (i : Int) < ((t.getD s []).length : Int) := by omega
        have HNE2 := Lib.hid (fun x (hx : x ≠ (t.getD s []).getD i 0) => HNE.out i x hin hx)
        have HINC2 := Lib.hid (HINC.out i)
        have HCI2 := Lib.hid (HCI.out i)
        have HFI2 := Lib.hid (HFI.out i)
        have HIL2 := Lib.hid (HIL.out i)
        clear HRS hin HNE HINC HCI HFI HIL
        generalize hxx : (t.getD s []).getD i 0 = x at *
        clear hxx
        generalize (t.getD s []).length = ln at *
        go_wp2_with fail
        refine (PW _).mono ?_
        rintro e V5 ⟨rfl, rfl⟩
        by_cases hbig : 70368744177664 ≤ x
        · go_wp2_with fail
          go_ret
          exact ⟨rfl, bt8⟩
        · have b95 := b9.setCell (p := ⟨g, i, none⟩) g1 (.int .i64 (x + 1))
          have zb5 := cell_below b95 _ _ zb
          have sf5 := sf.below b95
          have bt9 := below_trans bt7 b95
          have zm5 := zm.kept (hgr.out (x + 1)) (by intro hh; injection hh with hh; omega)
          have st5 := HS.out (x + 1)
          have hne := HNE2.out (x + 1) (by omega)
          have hck5 := HCI2.out (x + 1) (by omega) (by omega)
          have hinc := HINC2.out (x + 1)
          rw [show x + 1 - x = 1 from by omega] at hinc
          have hil := HIL2.out (x + 1)
          have hfi := HFI2.out (x + 1)
          clear zb sf zm HS HNE2 HCI2 HINC2 HIL2 HFI2 hgr
          generalize incT t s i (x + 1) = tt at *
          have TS3 := fun W h k => TSum_fits (some ad) (some ⟨gf, 0, none⟩) cm t.length tt fc t.length hil W h k hck5 hfi
          have TE := fun W h k => TSame_calls A0 (some ad) c0 cm t tt W h k
          rw [hne, hil] at TE
          obtain ⟨af, haf, hcf⟩ := sf5.get s (by rw [HFL.out]; exact hsn)
          injection haf with haf
          subst haf
          rw [add_plain] at hcf
          have hy := fitsT_byte HF.out (fun n hn => by rw [getD_ls]; exact (LR.out n (by simpa using hn)).2) _ (getD_mem (l := fc) (j := s) (by rw [HFL.out]; exact hsn))
          clear hne hck5 hfi hil
          go_upto_region 22 with fail
          generalize W4.setCell ⟨g, i, none⟩ (.int .i64 (x + 1)) = W5 at *
          clear hcell oc1 oc2 zmc
          have zmc := zm5.cell
          have h05 := h0.below bt9
          by_cases hfw : fc.getD s 0 = (i : Int)
          · rw [hinc, if_pos ⟨hsn, hfw⟩] at TS3
            clear hinc
            generalize fc.getD s 0 = y at *
            have iy : ((y : Int) == (i : Int)) = true := by simp [hfw]
            have ksv1 : ((sv + 1 : Int) == (sv + 1)) = true := by simp
            clear hfw
            go_wp2_with fail
            refine (TS3 _ st5 sf5).mono ?_
            rintro e W6 ⟨rfl, d6⟩
            have bt10 := below_trans bt9 d6
            replace zmc := cell_below d6 _ _ zmc
            replace zb5 := cell_below d6 _ _ zb5
            replace st5 := st5.below d6
            replace h05 := h05.below d6
            clear bt9 d6 TS3
            go_wp2_with fail
            refine (TE _ h05 st5).mono ?_
            rintro e W7 ⟨rfl, d7⟩
            go_wp2_with fail
            go_ret
            exact ⟨rfl, below_trans bt10 d7⟩
          · rw [hinc, if_neg (fun h => hfw h.2), Int.add_zero] at TS3
            clear hinc
            generalize fc.getD s 0 = y at *
            have iy : ((y : Int) == (i : Int)) = false := by simp [hfw]
            have ksv1 : ((sv : Int) == sv) = true := by simp
            clear hfw
            go_wp2_with fail
            refine (TS3 _ st5 sf5).mono ?_
            rintro e W6 ⟨rfl, d6⟩
            have bt10 := below_trans bt9 d6
            replace zmc := cell_below d6 _ _ zmc
            replace zb5 := cell_below d6 _ _ zb5
            replace st5 := st5.below d6
            replace h05 := h05.below d6
            clear bt9 d6 TS3
            go_wp2_with fail
            refine (TE _ h05 st5).mono ?_
            rintro e W7 ⟨rfl, d7⟩
            go_wp2_with fail
            go_ret
            exact ⟨rfl, below_trans bt10 d7⟩
  · generalize ckT t = ck at *
    have ick : (ck != 0) = true := by simpa using hck
    clear hck
    go_enter Try.func5, Try.ntmps5
    go_wp2_with fail
    refine (lives_calls _).mono ?_
    rintro e w1 ⟨rfl, b1⟩
    have bt1 := below_trans b0 b1
    replace hbox := cell_below b1 _ _ hbox
    clear b0 b1
    go_wp2_with fail
    refine (LT _ bt1).mono ?_
    rintro e w2 ⟨rfl, b2⟩
    have bt2 := below_trans bt1 b2
    replace hbox := cell_below b2 _ _ hbox
    clear bt1 b2 LT
    go_wp2_with fail
    refine (TC _ bt2).mono ?_
    rintro e w3 ⟨rfl, b3⟩
    have bt3 := below_trans bt2 b3
    replace hbox := cell_below b3 _ _ hbox
    clear bt2 b3 TC
    go_wp2_with fail
    go_ret
    exact ⟨rfl, bt3⟩
end Go.Proofs.Ythpgaggceefamaa
