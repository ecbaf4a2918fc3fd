/- TableSums. -/
import Derived.Test.YthpgaggceefamaaTabLives
import Derived.Test.YthpgaggceefamaaFitL
import Derived.Test.YthpgaggceefamaaTableParts
import Derived.Test.YthpgaggceefamaaBranch
import Derived.Deep.DeepCutAuto
namespace Go.Proofs.Ythpgaggceefamaa
set_option linter.unusedVariables false
set_option linter.unusedSimpArgs false
open Go.RowKit
set_option maxHeartbeats 4000000 in
set_option maxRecDepth 100000 in
theorem TableSums_row (A0 : Option Addr) (c0 : Nat) (b : List (List (List Int))) (A1 : Option Addr) (c1 : Nat) (r : List Int) (A2 : Option Addr) (c2 : Nat) (code : List Int) (w : World)
    (h0 : SlB w .i32 A0 c0 b ∧ ∀ l ∈ b, ∀ xs ∈ l, ∀ n ∈ xs, (Lit.int .i32 n).wf = true) (h1 : SlI w .i32 A1 c1 r) (f1 : ∀ n ∈ r, (Lit.int .i32 n).wf = true) (y1 : r.length * 4 ≤ 140737488351232) (h2 : SlI w .u8 A2 c2 code) (f2 : ∀ n ∈ code, (Lit.int .u8 n).wf = true) (y2 : code.length * 1 ≤ 140737488351232) :
    Calls Try.prog 3 #[.agg #[.slice A0 b.length c0], .slice A1 r.length c1, .slice A2 code.length c2] w fun e w' => e = .returned (.bool true) ∧ Below w.heap.size w w' := by
  replace h0 := h0.1
  have hcode : ∀ x ∈ code, 0 ≤ x ∧ x ≤ 255 := fun x hx => bdU8 (f2 x hx)
  clear f1 f2
  have hmix : Try.prog.follows .mixedOrders = true := by kernel_rfl
  have hm := h0.len
  have rm := h1.len
  have cm := h2.len
  have b0 := below_alloc (Below.refl w.heap.size w) (.cells #[.slice A0 b.length c0] 24)
  have hbox := box_cell (w := w) 24 (.slice A0 b.length c0)
  have LB := fun W (hW : Below w.heap.size w W) => LightBook_calls A0 c0 b 40 40 40 W (h0.below hW)
  cases hlt : lightBB b 40 40 40 with
  | false =>
    rw [hlt] at LB
    go_enter Try.func3, Try.ntmps3
    go_wp2_with fail
    refine (lives_calls _).mono ?_
    rintro e w1 ⟨rfl, b1⟩
    have bt1 := below_trans b0 b1
    replace hbox := cell_below b1 _ _ hbox
    clear b0 b1
    go_wp2_with fail
    refine (LB _ bt1).mono ?_
    rintro e w2 ⟨rfl, b2⟩
    have bt2 := below_trans bt1 b2
    replace hbox := cell_below b2 _ _ hbox
    clear bt1 b2 LB
    go_wp2_with fail
    go_ret
    exact ⟨rfl, bt2⟩
  | true =>
  rw [hlt] at LB
  have hS := light_short hlt (by decide)
  clear hlt
  have RB := fun W (hW : Below w.heap.size w W) => RBCheck_calls A0 c0 b W (h0.below hW) hS
  have RD := fun W (hW : Below w.heap.size w W) => RDim_calls A0 c0 b W (h0.below hW) hS
  have RW := fun W (hW : Below w.heap.size w W) => RCheckWide_calls A1 c1 r W (h1.below hW)
  by_cases hck : ckB b = 0
  · have hd : dimB b = ((b.length * wdB b : Nat) : Int) := by unfold dimB; rw [if_neg (by rw [hck]; decide)]
    rw [hck] at RB
    by_cases hrl : r.length = b.length * wdB b
    · have ir : ((r.length : Int) != dimB b) = false := by rw [hd, hrl]; simp
      by_cases hw : ckW r = 0
      · rw [hw] at RW
        have GB : goodB b r := ⟨hck, hw, hrl⟩
        obtain ⟨l1, l2, l3, l4, l5, l6, l7, l8⟩ := ckB_ok hck
        have LN := Lib.hid (fun i (hi : i < b.length) => (l8 i hi).1)
        have FITS := Lib.hid (fun p => fitL_fits (ls := b.map List.length) code p (fun i hi => by rw [getD_ls, (l8 i (by simpa using hi)).1]; omega))
        have FLEN := Lib.hid (fun p => show (fitL (b.map List.length) code p).length = b.length by rw [fitL_length, List.length_map])
        have F0 := Lib.hid (show fitL (b.map List.length) code 0 = List.replicate b.length 0 by rw [fitL_zero, List.length_map])
        have FS := Lib.hid (fun p => fitL_set (ls := b.map List.length) (code := code) (p := p))
        have CKT := Lib.hid (ckT_tabI hck hw hrl)
        have HTL := Lib.hid (tabI_length b r)
        have LENS := Lib.hid (tabI_lens (b := b) r)
        have hmk := makeT_of hck hw hrl
        have OX := fun W (hW : Below w.heap.size w W) => Own_int32_calls A1 c1 r W (h1.below hW) (by omega)
        have TM := fun Ar cr W (hW : Below w.heap.size w W) (hr : SlI W .i32 Ar cr r) => TMake_own A0 Ar c0 cr b r W (h0.below hW) hr
        rw [hmk] at TM
        dsimp only at TM
        rw [tabI_length] at TM
        have TC := fun A c W h => TCheck_calls A c (tabI b r) W h
        rw [CKT.out, tabI_length] at TC
        have AAL := Lib.hid (show (argT (tabI b r)).length = b.length by rw [argT_length, tabI_length])
        have SB := fun A B c d (l : List Int) (hl : l.length = b.length) W h k => Same_byte_n A B c d l b.length hl W h k
        have HC := Lib.hid hcode
        have GB' := Lib.hid GB
        have hS' := Lib.hid hS
        clear hmk l5 l7 l8 hck hw hrl hd hcode GB hS
        have GB := GB'
        have hS := hS'
        clear GB' hS'
        generalize hD : dimB b = D at *
        clear hD
        go_enter Try.func3, Try.ntmps3
        go_wp2_with fail
        refine (lives_calls _).mono ?_
        rintro e w1 ⟨rfl, b1⟩
        have bt1 := below_trans b0 b1
        replace hbox := cell_below b1 _ _ hbox
        clear b0 b1
        go_wp2_with fail
        refine (LB _ bt1).mono ?_
        rintro e w2 ⟨rfl, b2⟩
        have bt2 := below_trans bt1 b2
        replace hbox := cell_below b2 _ _ hbox
        clear bt1 b2 LB
        go_wp2_with fail
        refine (RB _ bt2).mono ?_
        rintro e w3 ⟨rfl, b3⟩
        have bt3 := below_trans bt2 b3
        replace hbox := cell_below b3 _ _ hbox
        clear bt2 b3 RB
        go_wp2_with fail
        refine (RD _ bt3).mono ?_
        rintro e w4 ⟨rfl, b4⟩
        have bt4 := below_trans bt3 b4
        replace hbox := cell_below b4 _ _ hbox
        clear bt3 b4 RD
        go_wp2_with fail
        refine (RW _ bt4).mono ?_
        rintro e w5 ⟨rfl, b5⟩
        have bt5 := below_trans bt4 b5
        replace hbox := cell_below b5 _ _ hbox
        clear bt4 b5 RW
        go_upto_region 5 with fail
        go_cut [7, 8] (fun s7 s8 wx => ∃ (g : Nat) (At : Option Addr) (ct : Nat), s7 = .pointer (some ⟨g, 0, none⟩) ∧ s8 = .int .i64 0 ∧ wx.cell? ⟨g, 0, none⟩ = some (.slice At b.length ct) ∧ SlS wx .i64 At ct (tabI b r) ∧ Below w.heap.size w wx ∧ wx.cell? ⟨w.heap.size, 0, none⟩ = some (.slice A0 b.length c0))
        case first =>
          refine region_L (oneQ 99 (fun _ => True) (fun X => X.cell? ⟨w.heap.size, 0, none⟩ = some (.slice A0 b.length c0))) hmix ?_
          have hS : oneQ 99 (fun _ => True) (fun X => X.cell? ⟨w.heap.size, 0, none⟩ = some (.slice A0 b.length c0)) (Array.replicate 10 false) w5.drew := ⟨fun _ => trivial, hbox⟩
          have z : Below w5.heap.size w5 w5.drew := (Below.refl _ _).drew
          refine anyL_take (fun X => X.cell? ⟨w.heap.size, 0, none⟩ = some (.slice A0 b.length c0)) [] (i := 0) (v := ?_) rfl (by kernel_rfl) (by kernel_rfl) (by kernel_rfl) (fun _ _ _ h => h) (by kernel_rfl) (one_ind (i := 0) (by decide)) (fun L X h1 h2 => h2.2) (Or.inl ⟨by rfl, ?_⟩) hS ?_
          rotate_left
          · intro X hX
            have g0 := hX
            go_simp
            try with_reducible rfl
          try simp only [List.getElem_toArray, List.getElem_cons_zero, List.getElem_cons_succ]
          simp only [Act.put, List.setIfInBounds_toArray, List.set_cons_zero, List.set_cons_succ]
          replace hS := (one_ind (i := 0) (by decide) _ _).2 hS
          refine anyL_take (fun _ => True) [] (i := 1) (v := ?_) rfl (by kernel_rfl) (by kernel_rfl) (by kernel_rfl) (fun _ _ _ h => h) (by kernel_rfl) (one_ind (i := 1) (by decide)) (fun _ _ _ _ => trivial) (Or.inl ⟨by rfl, ?_⟩) hS ?_
          rotate_left
          · intro X hX
            clear hX
            go_simp
            try with_reducible rfl
          try simp only [List.getElem_toArray, List.getElem_cons_zero, List.getElem_cons_succ]
          simp only [Act.put, List.setIfInBounds_toArray, List.set_cons_zero, List.set_cons_succ]
          replace hS := (one_ind (i := 1) (by decide) _ _).2 hS
          clear hS
          refine anyL_step2 (i := 2) (j := 7) (by kernel_rfl) rfl rfl (by rfl) (by rfl) (fun K hK => ?_) (fun K hK => ?_)
          · go_simp
            refine (OX _ (below_trans bt5 z)).mono ?_
            rintro e v2 ⟨Ar, cr, rfl, or, d2⟩
            replace z := below_trans z d2
            have sr := OwnI.sl or
            dsimp only
            refine hK.out _ _ ⟨fun _ => trivial, cell_below z _ _ hbox⟩ ?_
            clear hK K d2 or
            try simp only [Act.put, List.setIfInBounds_toArray, List.set_cons_zero, List.set_cons_succ]
            refine anyL_step2 (i := 3) (j := 7) (by kernel_rfl) rfl rfl (by rfl) (by rfl) (fun K hK => ?_) (fun K hK => ?_)
            · go_simp
              refine (TM Ar cr _ (below_trans bt5 z) sr).mono ?_
              rintro e v3 ⟨At, ct, rfl, st, d3⟩
              replace z := below_trans z d3
              dsimp only
              refine hK.out _ _ ⟨fun _ => trivial, cell_below z _ _ hbox⟩ ?_
              clear hK K d3 sr
              try simp only [Act.put, List.setIfInBounds_toArray, List.set_cons_zero, List.set_cons_succ]
              have hS : oneQ 99 (fun _ => True) (fun X => X.cell? ⟨w.heap.size, 0, none⟩ = some (.slice A0 b.length c0)) (((((Array.replicate 10 false).setIfInBounds 0 true).setIfInBounds 1 true).setIfInBounds 2 true).setIfInBounds 3 true) v3 := ⟨fun _ => trivial, cell_below z _ _ hbox⟩
              refine anyL_take (fun _ => True) [] (i := 4) (v := ?_) rfl (by kernel_rfl) (by kernel_rfl) (by kernel_rfl) (fun _ _ _ h => h) (by kernel_rfl) (one_ind (i := 4) (by decide)) (fun _ _ _ _ => trivial) (Or.inl ⟨by rfl, ?_⟩) hS ?_
              rotate_left
              · intro X hX
                clear hX
                go_simp
                try with_reducible rfl
              try simp only [List.getElem_toArray, List.getElem_cons_zero, List.getElem_cons_succ]
              simp only [Act.put, List.setIfInBounds_toArray, List.set_cons_zero, List.set_cons_succ]
              replace hS := (one_ind (i := 4) (by decide) _ _).2 hS
              refine anyL_take (fun _ => True) [] (i := 5) (v := ?_) rfl (by kernel_rfl) (by kernel_rfl) (by kernel_rfl) (fun _ _ _ h => h) (by kernel_rfl) (one_ind (i := 5) (by decide)) (fun _ _ _ _ => trivial) (Or.inl ⟨by rfl, ?_⟩) hS ?_
              rotate_left
              · intro X hX
                clear hX
                go_simp
                try with_reducible rfl
              try simp only [List.getElem_toArray, List.getElem_cons_zero, List.getElem_cons_succ]
              simp only [Act.put, List.setIfInBounds_toArray, List.set_cons_zero, List.set_cons_succ]
              replace hS := (one_ind (i := 5) (by decide) _ _).2 hS
              refine anyL_take (fun _ => True) [] (i := 6) (v := ?_) rfl (by kernel_rfl) (by kernel_rfl) (by kernel_rfl) (fun _ _ _ h => h) (by kernel_rfl) (one_ind (i := 6) (by decide)) (fun _ _ _ _ => trivial) (Or.inl ⟨by rfl, ?_⟩) hS ?_
              rotate_left
              · intro X hX
                clear hX
                go_simp
                try with_reducible rfl
              try simp only [List.getElem_toArray, List.getElem_cons_zero, List.getElem_cons_succ]
              simp only [Act.put, List.setIfInBounds_toArray, List.set_cons_zero, List.set_cons_succ]
              replace hS := (one_ind (i := 6) (by decide) _ _).2 hS
              clear hS
              refine anyL_step (i := 7) (by kernel_rfl) rfl (by rfl) (fun K hK => ?_)
              go_simp
              have lz : w5.heap.size ≤ v3.heap.size := z.size
              have bx : Boxed (v3.alloc (.cells #[.slice none 0 0] 35)) v3.heap.size 35 (.slice none 0 0) := Boxed.new v3 35 (.slice none 0 0)
              have bu : Below v3.heap.size v3 (v3.alloc (.cells #[.slice none 0 0] 35)) := below_box (w := v3) (.cells #[.slice none 0 0] 35)
              replace z : Below w5.heap.size w5 (v3.alloc (.cells #[.slice none 0 0] 35)) := below_alloc z (.cells #[.slice none 0 0] 35)
              have lg : v3.heap.size < (v3.alloc (.cells #[.slice none 0 0] 35)).heap.size := by simp
              refine hK.out _ _ ⟨fun _ => trivial, cell_below z _ _ hbox⟩ ?_
              clear hK K
              try simp only [Act.put, List.setIfInBounds_toArray, List.set_cons_zero, List.set_cons_succ]
              generalize v3.alloc (.cells #[.slice none 0 0] 35) = u at *
              have g9 := bx.cell
              have f9 := bx.frozen
              refine anyL_step (i := 8) (by kernel_rfl) rfl (by rfl) (fun K hK => ?_)
              go_simp
              have by_ := bx.set (.slice At b.length ct)
              replace st := st.below (bu.setCell (p := ⟨v3.heap.size, 0, none⟩) (Nat.le_refl _) (.slice At b.length ct))
              replace z := z.setCell (p := ⟨v3.heap.size, 0, none⟩) lz (.slice At b.length ct)
              refine hK.out _ _ ⟨fun _ => trivial, cell_below z _ _ hbox⟩ ?_
              clear hK K
              try simp only [Act.put, List.setIfInBounds_toArray, List.set_cons_zero, List.set_cons_succ]
              refine anyL_step (i := 9) (by kernel_rfl) rfl (by rfl) (fun K hK => ?_)
              go_simp
              refine hK.out _ _ ⟨fun _ => trivial, cell_below z _ _ hbox⟩ ?_
              clear hK K
              refine anyL_done (by kernel_rfl) ?_ _
              go_wp2_with fail
              go_meet
              exact ⟨_, At, ct, rfl, rfl, by_.cell, st.sl, below_trans bt5 z, cell_below z _ _ hbox⟩
            · go_simp
              have lz : w5.heap.size ≤ v2.heap.size := z.size
              have bx : Boxed (v2.alloc (.cells #[.slice none 0 0] 35)) v2.heap.size 35 (.slice none 0 0) := Boxed.new v2 35 (.slice none 0 0)
              have bu : Below v2.heap.size v2 (v2.alloc (.cells #[.slice none 0 0] 35)) := below_box (w := v2) (.cells #[.slice none 0 0] 35)
              replace z : Below w5.heap.size w5 (v2.alloc (.cells #[.slice none 0 0] 35)) := below_alloc z (.cells #[.slice none 0 0] 35)
              have lg : v2.heap.size < (v2.alloc (.cells #[.slice none 0 0] 35)).heap.size := by simp
              replace sr : SlI (v2.alloc (.cells #[.slice none 0 0] 35)) .i32 Ar cr r := sr.below bu
              refine hK.out _ _ ⟨fun _ => trivial, cell_below z _ _ hbox⟩ ?_
              clear hK K
              try simp only [Act.put, List.setIfInBounds_toArray, List.set_cons_zero, List.set_cons_succ]
              generalize v2.alloc (.cells #[.slice none 0 0] 35) = u at *
              refine anyL_step (i := 3) (by kernel_rfl) rfl (by rfl) (fun K hK => ?_)
              go_simp
              refine (TM Ar cr _ (below_trans bt5 z) sr).mono ?_
              rintro e v3 ⟨At, ct, rfl, st, d3⟩
              replace z := below_trans z d3
              replace bx := bx.kept (grown_of_below d3 none) (by simp)
              dsimp only
              refine hK.out _ _ ⟨fun _ => trivial, cell_below z _ _ hbox⟩ ?_
              clear hK K d3 sr
              try simp only [Act.put, List.setIfInBounds_toArray, List.set_cons_zero, List.set_cons_succ]
              have hS : oneQ 99 (fun _ => True) (fun X => X.cell? ⟨w.heap.size, 0, none⟩ = some (.slice A0 b.length c0)) ((((((Array.replicate 10 false).setIfInBounds 0 true).setIfInBounds 1 true).setIfInBounds 2 true).setIfInBounds 7 true).setIfInBounds 3 true) v3 := ⟨fun _ => trivial, cell_below z _ _ hbox⟩
              refine anyL_take (fun _ => True) [] (i := 4) (v := ?_) rfl (by kernel_rfl) (by kernel_rfl) (by kernel_rfl) (fun _ _ _ h => h) (by kernel_rfl) (one_ind (i := 4) (by decide)) (fun _ _ _ _ => trivial) (Or.inl ⟨by rfl, ?_⟩) hS ?_
              rotate_left
              · intro X hX
                clear hX
                go_simp
                try with_reducible rfl
              try simp only [List.getElem_toArray, List.getElem_cons_zero, List.getElem_cons_succ]
              simp only [Act.put, List.setIfInBounds_toArray, List.set_cons_zero, List.set_cons_succ]
              replace hS := (one_ind (i := 4) (by decide) _ _).2 hS
              refine anyL_take (fun _ => True) [] (i := 5) (v := ?_) rfl (by kernel_rfl) (by kernel_rfl) (by kernel_rfl) (fun _ _ _ h => h) (by kernel_rfl) (one_ind (i := 5) (by decide)) (fun _ _ _ _ => trivial) (Or.inl ⟨by rfl, ?_⟩) hS ?_
              rotate_left
              · intro X hX
                clear hX
                go_simp
                try with_reducible rfl
              try simp only [List.getElem_toArray, List.getElem_cons_zero, List.getElem_cons_succ]
              simp only [Act.put, List.setIfInBounds_toArray, List.set_cons_zero, List.set_cons_succ]
              replace hS := (one_ind (i := 5) (by decide) _ _).2 hS
              refine anyL_take (fun _ => True) [] (i := 6) (v := ?_) rfl (by kernel_rfl) (by kernel_rfl) (by kernel_rfl) (fun _ _ _ h => h) (by kernel_rfl) (one_ind (i := 6) (by decide)) (fun _ _ _ _ => trivial) (Or.inl ⟨by rfl, ?_⟩) hS ?_
              rotate_left
              · intro X hX
                clear hX
                go_simp
                try with_reducible rfl
              try simp only [List.getElem_toArray, List.getElem_cons_zero, List.getElem_cons_succ]
              simp only [Act.put, List.setIfInBounds_toArray, List.set_cons_zero, List.set_cons_succ]
              replace hS := (one_ind (i := 6) (by decide) _ _).2 hS
              clear hS
              have g9 := bx.cell
              have f9 := bx.frozen
              refine anyL_step (i := 8) (by kernel_rfl) rfl (by rfl) (fun K hK => ?_)
              go_simp
              have by_ := bx.set (.slice At b.length ct)
              replace st := st.kept (grownBy_setCell' v3 (v2.heap.size) (.slice At b.length ct)) (fun b hb => by simp; omega)
              replace z := z.setCell (p := ⟨v2.heap.size, 0, none⟩) lz (.slice At b.length ct)
              refine hK.out _ _ ⟨fun _ => trivial, cell_below z _ _ hbox⟩ ?_
              clear hK K
              try simp only [Act.put, List.setIfInBounds_toArray, List.set_cons_zero, List.set_cons_succ]
              refine anyL_step (i := 9) (by kernel_rfl) rfl (by rfl) (fun K hK => ?_)
              go_simp
              refine hK.out _ _ ⟨fun _ => trivial, cell_below z _ _ hbox⟩ ?_
              clear hK K
              refine anyL_done (by kernel_rfl) ?_ _
              go_wp2_with fail
              go_meet
              exact ⟨_, At, ct, rfl, rfl, by_.cell, st.sl, below_trans bt5 z, cell_below z _ _ hbox⟩
          · go_simp
            have lz : w5.heap.size ≤ w5.heap.size := z.size
            have bx : Boxed ((w5.alloc (.cells #[.slice none 0 0] 35)).drew) w5.heap.size 35 (.slice none 0 0) := Boxed.new w5.drew 35 (.slice none 0 0)
            have bu : Below w5.drew.heap.size w5.drew ((w5.alloc (.cells #[.slice none 0 0] 35)).drew) := below_box (w := w5.drew) (.cells #[.slice none 0 0] 35)
            replace z : Below w5.heap.size w5 ((w5.alloc (.cells #[.slice none 0 0] 35)).drew) := below_alloc z (.cells #[.slice none 0 0] 35)
            have lg : w5.heap.size < ((w5.alloc (.cells #[.slice none 0 0] 35)).drew).heap.size := by simp
            refine hK.out _ _ ⟨fun _ => trivial, cell_below z _ _ hbox⟩ ?_
            clear hK K
            try simp only [Act.put, List.setIfInBounds_toArray, List.set_cons_zero, List.set_cons_succ]
            generalize (w5.alloc (.cells #[.slice none 0 0] 35)).drew = u at *
            refine anyL_step (i := 2) (by kernel_rfl) rfl (by rfl) (fun K hK => ?_)
            go_simp
            refine (OX _ (below_trans bt5 z)).mono ?_
            rintro e v2 ⟨Ar, cr, rfl, or, d2⟩
            replace z := below_trans z d2
            have sr := OwnI.sl or
            replace bx := bx.kept (grown_of_below d2 none) (by simp)
            replace lg := Nat.lt_of_lt_of_le lg d2.size
            dsimp only
            refine hK.out _ _ ⟨fun _ => trivial, cell_below z _ _ hbox⟩ ?_
            clear hK K d2 or
            try simp only [Act.put, List.setIfInBounds_toArray, List.set_cons_zero, List.set_cons_succ]
            refine anyL_step (i := 3) (by kernel_rfl) rfl (by rfl) (fun K hK => ?_)
            go_simp
            refine (TM Ar cr _ (below_trans bt5 z) sr).mono ?_
            rintro e v3 ⟨At, ct, rfl, st, d3⟩
            replace z := below_trans z d3
            replace bx := bx.kept (grown_of_below d3 none) (by simp)
            dsimp only
            refine hK.out _ _ ⟨fun _ => trivial, cell_below z _ _ hbox⟩ ?_
            clear hK K d3 sr
            try simp only [Act.put, List.setIfInBounds_toArray, List.set_cons_zero, List.set_cons_succ]
            have hS : oneQ 99 (fun _ => True) (fun X => X.cell? ⟨w.heap.size, 0, none⟩ = some (.slice A0 b.length c0)) ((((((Array.replicate 10 false).setIfInBounds 0 true).setIfInBounds 1 true).setIfInBounds 7 true).setIfInBounds 2 true).setIfInBounds 3 true) v3 := ⟨fun _ => trivial, cell_below z _ _ hbox⟩
            refine anyL_take (fun _ => True) [] (i := 4) (v := ?_) rfl (by kernel_rfl) (by kernel_rfl) (by kernel_rfl) (fun _ _ _ h => h) (by kernel_rfl) (one_ind (i := 4) (by decide)) (fun _ _ _ _ => trivial) (Or.inl ⟨by rfl, ?_⟩) hS ?_
            rotate_left
            · intro X hX
              clear hX
              go_simp
              try with_reducible rfl
            try simp only [List.getElem_toArray, List.getElem_cons_zero, List.getElem_cons_succ]
            simp only [Act.put, List.setIfInBounds_toArray, List.set_cons_zero, List.set_cons_succ]
            replace hS := (one_ind (i := 4) (by decide) _ _).2 hS
            refine anyL_take (fun _ => True) [] (i := 5) (v := ?_) rfl (by kernel_rfl) (by kernel_rfl) (by kernel_rfl) (fun _ _ _ h => h) (by kernel_rfl) (one_ind (i := 5) (by decide)) (fun _ _ _ _ => trivial) (Or.inl ⟨by rfl, ?_⟩) hS ?_
            rotate_left
            · intro X hX
              clear hX
              go_simp
              try with_reducible rfl
            try simp only [List.getElem_toArray, List.getElem_cons_zero, List.getElem_cons_succ]
            simp only [Act.put, List.setIfInBounds_toArray, List.set_cons_zero, List.set_cons_succ]
            replace hS := (one_ind (i := 5) (by decide) _ _).2 hS
            refine anyL_take (fun _ => True) [] (i := 6) (v := ?_) rfl (by kernel_rfl) (by kernel_rfl) (by kernel_rfl) (fun _ _ _ h => h) (by kernel_rfl) (one_ind (i := 6) (by decide)) (fun _ _ _ _ => trivial) (Or.inl ⟨by rfl, ?_⟩) hS ?_
            rotate_left
            · intro X hX
              clear hX
              go_simp
              try with_reducible rfl
            try simp only [List.getElem_toArray, List.getElem_cons_zero, List.getElem_cons_succ]
            simp only [Act.put, List.setIfInBounds_toArray, List.set_cons_zero, List.set_cons_succ]
            replace hS := (one_ind (i := 6) (by decide) _ _).2 hS
            clear hS
            have g9 := bx.cell
            have f9 := bx.frozen
            refine anyL_step (i := 8) (by kernel_rfl) rfl (by rfl) (fun K hK => ?_)
            go_simp
            have by_ := bx.set (.slice At b.length ct)
            replace st := st.kept (grownBy_setCell' v3 (w5.heap.size) (.slice At b.length ct)) (fun b hb => by simp; omega)
            replace z := z.setCell (p := ⟨w5.heap.size, 0, none⟩) lz (.slice At b.length ct)
            refine hK.out _ _ ⟨fun _ => trivial, cell_below z _ _ hbox⟩ ?_
            clear hK K
            try simp only [Act.put, List.setIfInBounds_toArray, List.set_cons_zero, List.set_cons_succ]
            refine anyL_step (i := 9) (by kernel_rfl) rfl (by rfl) (fun K hK => ?_)
            go_simp
            refine hK.out _ _ ⟨fun _ => trivial, cell_below z _ _ hbox⟩ ?_
            clear hK K
            refine anyL_done (by kernel_rfl) ?_ _
            go_wp2_with fail
            go_meet
            exact ⟨_, At, ct, rfl, rfl, by_.cell, st.sl, below_trans bt5 z, cell_below z _ _ hbox⟩
        case rest =>
          clear OX TM bt5 hbox
          obtain ⟨g, At, ct, rfl, rfl, zt, hst, bt6, zb⟩ := hcut
          go_wp2_with fail
          refine (TC At ct _ hst).mono ?_
          rintro e wc7 ⟨rfl, d7⟩
          have bt7 := below_trans bt6 d7
          replace zt := cell_below d7 _ _ zt
          replace zb := cell_below d7 _ _ zb
          replace hst := hst.below d7
          clear TC bt6 d7
          go_wp2_with (refine wp_make rfl _ _ 26 rfl 5 .u8 1 Try.underlying26 (by kernel_rfl) .i64 .i64 (b.length : Int) b.length rfl rfl rfl (by omega) (by unfold maxLen; omega) ?_)
          intro w8 o8 b8
          rw [← F0.out] at o8
          go_wp2_with fail
          go_loopg [10] (b.length + 1) (fun gk u w' => ∃ p : Nat, u = .int .i64 (p : Int) ∧ p ≤ b.length ∧ p ≤ code.length ∧ b.length < p + gk ∧ w'.ownsRow wc7.heap.size 5 1 (.slice (some ⟨wc7.heap.size, 0, none⟩) b.length b.length) b.length (nums .u8 (fitL (b.map List.length) code p)) ∧ Below wc7.heap.size wc7 w')
          case atStart => exact ⟨0, rfl, by omega, by omega, by omega, by have := o8; unfold OwnI at this; rw [FLEN.out] at this; exact this, b8⟩
          case round =>
            clear o8 b8
            obtain ⟨p, rfl, hp1, hp2, hg, oo, bz⟩ := hrel
            have three : (p < b.length ∧ p < code.length) ∨ (p = b.length) ∨ (p < b.length ∧ p = code.length) := by omega
            rcases three with ⟨k1, k2⟩ | k1 | ⟨k1, k2⟩
            · have i1 : (p : Int) < (b.length : Int) := by omega
              have i2 : (p : Int) < (code.length : Int) := by omega
              obtain ⟨ab, F, c, rfl, hx, hxs⟩ := h0.get p k1
              obtain ⟨ac, rfl, hc⟩ := h2.get p k2
              have zb0 := zb
              have zc0 := cell_below bt7 _ _ hc
              have zx0 := cell_below bt7 _ _ hx
              have zb := cell_below bz _ _ zb0
              have zc := cell_below bz _ _ zc0
              have zx := cell_below bz _ _ zx0
              have hy := HC.out _ (getD_mem k2)
              have hn := LN.out p k1
              have hs := FS.out p
              rw [getD_ls] at hs
              have oc := OwnI.cell oo p (by rw [FLEN.out]; exact k1)
              obtain ⟨oc1, oc2⟩ := oc
              have ow := (OwnI.store oo p (code.getD p 0 % ((b.getD p []).length : Int))).1
              rw [hs] at ow
              have zs := bz.setCell (p := ⟨wc7.heap.size, p, none⟩) (Nat.le_refl _) (.int .u8 (code.getD p 0 % ((b.getD p []).length : Int)))
              clear hs hc hx hxs
              have hwn : 1 ≤ (b.getD p []).length ∧ (b.getD p []).length ≤ 256 := by omega
              clear hn
              generalize code.getD p 0 = y at *
              generalize (b.getD p []).length = wn at *
              generalize (fitL (b.map List.length) code p).getD p 0 = y' at *
              have PK := Pick_calls y (wn : Int) wr.drew (by omega) (by omega)
              have m0 := Int.emod_nonneg y (show (wn : Int) ≠ 0 by omega)
              have m1 := Int.emod_lt_of_pos y (show 0 < (wn : Int) by omega)
              have wy := IntWalk.u8_in (y % (wn : Int)) (by omega)
              have wy2 := IntWalk.i64_in y (by omega)
              have zs0 := zs.drew
              go_wp2_with fail
              refine region_L (oneQ 99 (fun _ => True) (fun X => X.cell? ⟨w.heap.size, 0, none⟩ = some (.slice (some ab) b.length c0) ∧ X.cell? (ac.add p) = some (.int .u8 y) ∧ X.cell? (ab.add p) = some (.slice F wn c))) hmix ?_
              have hS : oneQ 99 (fun _ => True) (fun X => X.cell? ⟨w.heap.size, 0, none⟩ = some (.slice (some ab) b.length c0) ∧ X.cell? (ac.add p) = some (.int .u8 y) ∧ X.cell? (ab.add p) = some (.slice F wn c)) (Array.replicate 17 false) wr.drew := ⟨fun _ => trivial, zb, zc, zx⟩
              refine anyL_take (fun _ => True) [] (i := 0) (v := ?_) rfl (by kernel_rfl) (by kernel_rfl) (by kernel_rfl) (fun _ _ _ h => h) (by kernel_rfl) (one_ind (i := 0) (by decide)) (fun _ _ _ _ => trivial) (Or.inl ⟨by rfl, ?_⟩) hS ?_
              rotate_left
              · intro X hX
                clear hX
                go_simp
                try with_reducible rfl
              try simp only [List.getElem_toArray, List.getElem_cons_zero, List.getElem_cons_succ]
              simp only [Act.put, List.setIfInBounds_toArray, List.set_cons_zero, List.set_cons_succ]
              replace hS := (one_ind (i := 0) (by decide) _ _).2 hS
              refine anyL_take (fun _ => True) [] (i := 1) (v := ?_) rfl (by kernel_rfl) (by kernel_rfl) (by kernel_rfl) (fun _ _ _ h => h) (by kernel_rfl) (one_ind (i := 1) (by decide)) (fun _ _ _ _ => trivial) (Or.inl ⟨by rfl, ?_⟩) hS ?_
              rotate_left
              · intro X hX
                clear hX
                go_simp
                try with_reducible rfl
              try simp only [List.getElem_toArray, List.getElem_cons_zero, List.getElem_cons_succ]
              simp only [Act.put, List.setIfInBounds_toArray, List.set_cons_zero, List.set_cons_succ]
              replace hS := (one_ind (i := 1) (by decide) _ _).2 hS
              refine anyL_take (fun _ => True) [] (i := 2) (v := ?_) rfl (by kernel_rfl) (by kernel_rfl) (by kernel_rfl) (fun _ _ _ h => h) (by kernel_rfl) (one_ind (i := 2) (by decide)) (fun _ _ _ _ => trivial) (Or.inl ⟨by rfl, ?_⟩) hS ?_
              rotate_left
              · intro X hX
                clear hX
                go_simp
                try with_reducible rfl
              try simp only [List.getElem_toArray, List.getElem_cons_zero, List.getElem_cons_succ]
              simp only [Act.put, List.setIfInBounds_toArray, List.set_cons_zero, List.set_cons_succ]
              replace hS := (one_ind (i := 2) (by decide) _ _).2 hS
              refine anyL_take (fun _ => True) [] (i := 3) (v := ?_) rfl (by kernel_rfl) (by kernel_rfl) (by kernel_rfl) (fun _ _ _ h => h) (by kernel_rfl) (one_ind (i := 3) (by decide)) (fun _ _ _ _ => trivial) (Or.inl ⟨by rfl, ?_⟩) hS ?_
              rotate_left
              · intro X hX
                clear hX
                go_simp
                try with_reducible rfl
              try simp only [List.getElem_toArray, List.getElem_cons_zero, List.getElem_cons_succ]
              simp only [Act.put, List.setIfInBounds_toArray, List.set_cons_zero, List.set_cons_succ]
              replace hS := (one_ind (i := 3) (by decide) _ _).2 hS
              refine anyL_take (fun _ => True) [] (i := 4) (v := ?_) rfl (by kernel_rfl) (by kernel_rfl) (by kernel_rfl) (fun _ _ _ h => h) (by kernel_rfl) (one_ind (i := 4) (by decide)) (fun _ _ _ _ => trivial) (Or.inl ⟨by rfl, ?_⟩) hS ?_
              rotate_left
              · intro X hX
                clear hX
                go_simp
                try with_reducible rfl
              try simp only [List.getElem_toArray, List.getElem_cons_zero, List.getElem_cons_succ]
              simp only [Act.put, List.setIfInBounds_toArray, List.set_cons_zero, List.set_cons_succ]
              replace hS := (one_ind (i := 4) (by decide) _ _).2 hS
              refine anyL_take (fun X => X.cell? ⟨w.heap.size, 0, none⟩ = some (.slice (some ab) b.length c0) ∧ X.cell? (ac.add p) = some (.int .u8 y) ∧ X.cell? (ab.add p) = some (.slice F wn c)) [] (i := 5) (v := ?_) rfl (by kernel_rfl) (by kernel_rfl) (by kernel_rfl) (fun _ _ _ h => h) (by kernel_rfl) (one_ind (i := 5) (by decide)) (fun L X h1 h2 => h2.2) (Or.inl ⟨by rfl, ?_⟩) hS ?_
              rotate_left
              · intro X hX
                obtain ⟨g0, g1, g2⟩ := hX
                go_simp
                try with_reducible rfl
              try simp only [List.getElem_toArray, List.getElem_cons_zero, List.getElem_cons_succ]
              simp only [Act.put, List.setIfInBounds_toArray, List.set_cons_zero, List.set_cons_succ]
              replace hS := (one_ind (i := 5) (by decide) _ _).2 hS
              refine anyL_take (fun _ => True) [] (i := 6) (v := ?_) rfl (by kernel_rfl) (by kernel_rfl) (by kernel_rfl) (fun _ _ _ h => h) (by kernel_rfl) (one_ind (i := 6) (by decide)) (fun _ _ _ _ => trivial) (Or.inl ⟨by rfl, ?_⟩) hS ?_
              rotate_left
              · intro X hX
                clear hX
                go_simp
                try with_reducible rfl
              try simp only [List.getElem_toArray, List.getElem_cons_zero, List.getElem_cons_succ]
              simp only [Act.put, List.setIfInBounds_toArray, List.set_cons_zero, List.set_cons_succ]
              replace hS := (one_ind (i := 6) (by decide) _ _).2 hS
              refine anyL_take (fun _ => True) [] (i := 7) (v := ?_) rfl (by kernel_rfl) (by kernel_rfl) (by kernel_rfl) (fun _ _ _ h => h) (by kernel_rfl) (one_ind (i := 7) (by decide)) (fun _ _ _ _ => trivial) (Or.inl ⟨by rfl, ?_⟩) hS ?_
              rotate_left
              · intro X hX
                clear hX
                go_simp
                try with_reducible rfl
              try simp only [List.getElem_toArray, List.getElem_cons_zero, List.getElem_cons_succ]
              simp only [Act.put, List.setIfInBounds_toArray, List.set_cons_zero, List.set_cons_succ]
              replace hS := (one_ind (i := 7) (by decide) _ _).2 hS
              refine anyL_take (fun X => X.cell? ⟨w.heap.size, 0, none⟩ = some (.slice (some ab) b.length c0) ∧ X.cell? (ac.add p) = some (.int .u8 y) ∧ X.cell? (ab.add p) = some (.slice F wn c)) [] (i := 8) (v := ?_) rfl (by kernel_rfl) (by kernel_rfl) (by kernel_rfl) (fun _ _ _ h => h) (by kernel_rfl) (one_ind (i := 8) (by decide)) (fun L X h1 h2 => h2.2) (Or.inl ⟨by rfl, ?_⟩) hS ?_
              rotate_left
              · intro X hX
                obtain ⟨g0, g1, g2⟩ := hX
                go_simp
                try with_reducible rfl
              try simp only [List.getElem_toArray, List.getElem_cons_zero, List.getElem_cons_succ]
              simp only [Act.put, List.setIfInBounds_toArray, List.set_cons_zero, List.set_cons_succ]
              replace hS := (one_ind (i := 8) (by decide) _ _).2 hS
              refine anyL_take (fun _ => True) [] (i := 9) (v := ?_) rfl (by kernel_rfl) (by kernel_rfl) (by kernel_rfl) (fun _ _ _ h => h) (by kernel_rfl) (one_ind (i := 9) (by decide)) (fun _ _ _ _ => trivial) (Or.inl ⟨by rfl, ?_⟩) hS ?_
              rotate_left
              · intro X hX
                clear hX
                go_simp
                try with_reducible rfl
              try simp only [List.getElem_toArray, List.getElem_cons_zero, List.getElem_cons_succ]
              simp only [Act.put, List.setIfInBounds_toArray, List.set_cons_zero, List.set_cons_succ]
              replace hS := (one_ind (i := 9) (by decide) _ _).2 hS
              refine anyL_take (fun _ => True) [] (i := 10) (v := ?_) rfl (by kernel_rfl) (by kernel_rfl) (by kernel_rfl) (fun _ _ _ h => h) (by kernel_rfl) (one_ind (i := 10) (by decide)) (fun _ _ _ _ => trivial) (Or.inl ⟨by rfl, ?_⟩) hS ?_
              rotate_left
              · intro X hX
                clear hX
                go_simp
                try with_reducible rfl
              try simp only [List.getElem_toArray, List.getElem_cons_zero, List.getElem_cons_succ]
              simp only [Act.put, List.setIfInBounds_toArray, List.set_cons_zero, List.set_cons_succ]
              replace hS := (one_ind (i := 10) (by decide) _ _).2 hS
              refine anyL_take (fun X => X.cell? ⟨w.heap.size, 0, none⟩ = some (.slice (some ab) b.length c0) ∧ X.cell? (ac.add p) = some (.int .u8 y) ∧ X.cell? (ab.add p) = some (.slice F wn c)) [] (i := 11) (v := ?_) rfl (by kernel_rfl) (by kernel_rfl) (by kernel_rfl) (fun _ _ _ h => h) (by kernel_rfl) (one_ind (i := 11) (by decide)) (fun L X h1 h2 => h2.2) (Or.inl ⟨by rfl, ?_⟩) hS ?_
              rotate_left
              · intro X hX
                obtain ⟨g0, g1, g2⟩ := hX
                go_simp
                try with_reducible rfl
              try simp only [List.getElem_toArray, List.getElem_cons_zero, List.getElem_cons_succ]
              simp only [Act.put, List.setIfInBounds_toArray, List.set_cons_zero, List.set_cons_succ]
              replace hS := (one_ind (i := 11) (by decide) _ _).2 hS
              refine anyL_take (fun _ => True) [] (i := 12) (v := ?_) rfl (by kernel_rfl) (by kernel_rfl) (by kernel_rfl) (fun _ _ _ h => h) (by kernel_rfl) (one_ind (i := 12) (by decide)) (fun _ _ _ _ => trivial) (Or.inl ⟨by rfl, ?_⟩) hS ?_
              rotate_left
              · intro X hX
                clear hX
                go_simp
                try with_reducible rfl
              try simp only [List.getElem_toArray, List.getElem_cons_zero, List.getElem_cons_succ]
              simp only [Act.put, List.setIfInBounds_toArray, List.set_cons_zero, List.set_cons_succ]
              replace hS := (one_ind (i := 12) (by decide) _ _).2 hS
              clear hS
              refine anyL_step (i := 13) (by kernel_rfl) rfl (by rfl) (fun K hK => ?_)
              go_simp
              refine PK.mono ?_
              rintro e w9 ⟨rfl, rfl⟩
              dsimp only
              refine hK.out _ _ ⟨fun _ => trivial, zb, zc, zx⟩ ?_
              clear hK K
              try simp only [Act.put, List.setIfInBounds_toArray, List.set_cons_zero, List.set_cons_succ]
              have hS : oneQ 99 (fun _ => True) (fun X => X.cell? ⟨w.heap.size, 0, none⟩ = some (.slice (some ab) b.length c0) ∧ X.cell? (ac.add p) = some (.int .u8 y) ∧ X.cell? (ab.add p) = some (.slice F wn c)) (((((((((((((((Array.replicate 17 false).setIfInBounds 0 true).setIfInBounds 1 true).setIfInBounds 2 true).setIfInBounds 3 true).setIfInBounds 4 true).setIfInBounds 5 true).setIfInBounds 6 true).setIfInBounds 7 true).setIfInBounds 8 true).setIfInBounds 9 true).setIfInBounds 10 true).setIfInBounds 11 true).setIfInBounds 12 true).setIfInBounds 13 true) wr.drew := ⟨fun _ => trivial, zb, zc, zx⟩
              refine anyL_take (fun _ => True) [] (i := 14) (v := ?_) rfl (by kernel_rfl) (by kernel_rfl) (by kernel_rfl) (fun _ _ _ h => h) (by kernel_rfl) (one_ind (i := 14) (by decide)) (fun _ _ _ _ => trivial) (Or.inl ⟨by rfl, ?_⟩) hS ?_
              rotate_left
              · intro X hX
                clear hX
                go_simp
                try with_reducible rfl
              try simp only [List.getElem_toArray, List.getElem_cons_zero, List.getElem_cons_succ]
              simp only [Act.put, List.setIfInBounds_toArray, List.set_cons_zero, List.set_cons_succ]
              replace hS := (one_ind (i := 14) (by decide) _ _).2 hS
              refine anyL_take (fun _ => True) [] (i := 15) (v := ?_) rfl (by kernel_rfl) (by kernel_rfl) (by kernel_rfl) (fun _ _ _ h => h) (by kernel_rfl) (one_ind (i := 15) (by decide)) (fun _ _ _ _ => trivial) (Or.inl ⟨by rfl, ?_⟩) hS ?_
              rotate_left
              · intro X hX
                clear hX
                go_simp
                try with_reducible rfl
              try simp only [List.getElem_toArray, List.getElem_cons_zero, List.getElem_cons_succ]
              simp only [Act.put, List.setIfInBounds_toArray, List.set_cons_zero, List.set_cons_succ]
              replace hS := (one_ind (i := 15) (by decide) _ _).2 hS
              clear hS
              refine anyL_step (i := 16) (by kernel_rfl) rfl (by rfl) (fun K hK => ?_)
              go_simp
              refine hK.out _ _ ⟨fun _ => trivial, cell_below zs0 _ _ zb0, cell_below zs0 _ _ zc0, cell_below zs0 _ _ zx0⟩ ?_
              clear hK K
              try simp only [Act.put, List.setIfInBounds_toArray, List.set_cons_zero, List.set_cons_succ]
              refine anyL_done (by kernel_rfl) ?_ _
              go_wp2_with fail
              go_roundg (gk - 1)
              case measure => omega
              case rel => exact ⟨p + 1, by simp, by omega, by omega, by omega, ow.drew, zs0⟩
            · have i1 : ¬ (p : Int) < (b.length : Int) := by omega
              clear k1
              have zt := cell_below bz _ _ zt
              have zb := cell_below bz _ _ zb
              have st := hst.below bz
              have btz := below_trans bt7 bz
              have sf : SlI wr .u8 (some ⟨wc7.heap.size, 0, none⟩) b.length (fitL (b.map List.length) code p) := OwnI.sl (base := wc7.heap.size) (E := 5) (by unfold OwnI; rw [FLEN.out]; exact oo)
              have hf : fitsT (b.map List.length) (fitL (b.map List.length) code p) := FITS.out p
              clear oo
              generalize fitL (b.map List.length) code p = fc at *
              have C1 := fun W h k => TSum_fits At (some ⟨wc7.heap.size, 0, none⟩) ct b.length (tabI b r) fc b.length HTL.out W h k CKT.out (by rw [LENS.out]; exact hf)
              have C2 := fun W h k => RDecode_good A0 (some ⟨wc7.heap.size, 0, none⟩) c0 b.length b fc r W GB.out hS.out hf h k
              have C3 := fun A c W h k => RDist_good A1 A c1 c b r fc W GB.out hf h k
              have C4 := fun W h => TLeast_good At ct b r W GB.out h
              have C5 := fun W h k => REncode_good A0 A1 c0 c1 b r W GB.out hS.out h k
              have C6 := fun W h k => RLoss_good A0 A1 c0 c1 b r W GB.out hS.out h k
              have hle := least_fits (r := r) hf
              clear hf
              generalize decN b fc b.length = dn at *
              generalize sumN (tabI b r) fc b.length = sv at *
              generalize leastN (tabI b r) b.length = lv at *
              generalize tabI b r = tt at *
              generalize argT tt = aa at *
              have HLE := Lib.hid hle
              clear hle
              go_wp2_with fail
              refine (C1 _ st sf).mono ?_
              rintro e x1 ⟨rfl, d1⟩
              have e1 := below_trans btz d1
              replace zt := cell_below d1 _ _ zt
              replace zb := cell_below d1 _ _ zb
              replace st := st.below d1
              replace sf := sf.below d1
              clear d1 btz C1
              go_wp2_with fail
              refine (C2 _ (h0.below e1) sf).mono ?_
              rintro e x2 ⟨Ad, cd, rfl, sd, d2⟩
              have e2 := below_trans e1 d2
              replace zt := cell_below d2 _ _ zt
              replace zb := cell_below d2 _ _ zb
              replace st := st.below d2
              clear d2 e1 C2
              go_wp2_with fail
              refine (C3 _ _ _ (h1.below e2) sd).mono ?_
              rintro e x3 ⟨rfl, d3⟩
              have e3 := below_trans e2 d3
              replace zt := cell_below d3 _ _ zt
              replace zb := cell_below d3 _ _ zb
              replace st := st.below d3
              clear d3 e2 C3
              have ksv : (sv != sv) = false := by simp
              go_wp2_with fail
              refine (C4 _ st).mono ?_
              rintro e x4 ⟨Al, cl, rfl, sl, d4⟩
              have e4 := below_trans e3 d4
              replace zb := cell_below d4 _ _ zb
              clear d4 e3 C4 st
              go_wp2_with fail
              refine (C5 _ (h0.below e4) (h1.below e4)).mono ?_
              rintro e x5 ⟨Ae, ce, rfl, se, d5⟩
              have e5 := below_trans e4 d5
              replace zb := cell_below d5 _ _ zb
              replace sl := sl.below d5
              clear d5 e4 C5
              go_wp2_with fail
              refine (C6 _ (h0.below e5) (h1.below e5)).mono ?_
              rintro e x6 ⟨rfl, d6⟩
              have e6 := below_trans e5 d6
              replace sl := sl.below d6
              replace se := se.below d6
              clear d6 e5 C6
              have hle := HLE.out
              have hal := AAL.out
              go_wp2_with fail
              refine (SB Al Ae cl ce aa hal x6 sl se).mono ?_
              rintro e x7 ⟨rfl, d7⟩
              go_wp2_with fail
              go_ret
              exact ⟨rfl, below_trans e6 d7⟩
            · have i1 : (p : Int) < (b.length : Int) := by omega
              have i2 : ¬ (p : Int) < (code.length : Int) := by omega
              clear k1 k2
              have zt := cell_below bz _ _ zt
              have zb := cell_below bz _ _ zb
              have st := hst.below bz
              have btz := below_trans bt7 bz
              have sf : SlI wr .u8 (some ⟨wc7.heap.size, 0, none⟩) b.length (fitL (b.map List.length) code p) := OwnI.sl (base := wc7.heap.size) (E := 5) (by unfold OwnI; rw [FLEN.out]; exact oo)
              have hf : fitsT (b.map List.length) (fitL (b.map List.length) code p) := FITS.out p
              clear oo
              generalize fitL (b.map List.length) code p = fc at *
              have C1 := fun W h k => TSum_fits At (some ⟨wc7.heap.size, 0, none⟩) ct b.length (tabI b r) fc b.length HTL.out W h k CKT.out (by rw [LENS.out]; exact hf)
              have C2 := fun W h k => RDecode_good A0 (some ⟨wc7.heap.size, 0, none⟩) c0 b.length b fc r W GB.out hS.out hf h k
              have C3 := fun A c W h k => RDist_good A1 A c1 c b r fc W GB.out hf h k
              have C4 := fun W h => TLeast_good At ct b r W GB.out h
              have C5 := fun W h k => REncode_good A0 A1 c0 c1 b r W GB.out hS.out h k
              have C6 := fun W h k => RLoss_good A0 A1 c0 c1 b r W GB.out hS.out h k
              have hle := least_fits (r := r) hf
              clear hf
              generalize decN b fc b.length = dn at *
              generalize sumN (tabI b r) fc b.length = sv at *
              generalize leastN (tabI b r) b.length = lv at *
              generalize tabI b r = tt at *
              generalize argT tt = aa at *
              have HLE := Lib.hid hle
              clear hle
              go_wp2_with fail
              refine (C1 _ st sf).mono ?_
              rintro e x1 ⟨rfl, d1⟩
              have e1 := below_trans btz d1
              replace zt := cell_below d1 _ _ zt
              replace zb := cell_below d1 _ _ zb
              replace st := st.below d1
              replace sf := sf.below d1
              clear d1 btz C1
              go_wp2_with fail
              refine (C2 _ (h0.below e1) sf).mono ?_
              rintro e x2 ⟨Ad, cd, rfl, sd, d2⟩
              have e2 := below_trans e1 d2
              replace zt := cell_below d2 _ _ zt
              replace zb := cell_below d2 _ _ zb
              replace st := st.below d2
              clear d2 e1 C2
              go_wp2_with fail
              refine (C3 _ _ _ (h1.below e2) sd).mono ?_
              rintro e x3 ⟨rfl, d3⟩
              have e3 := below_trans e2 d3
              replace zt := cell_below d3 _ _ zt
              replace zb := cell_below d3 _ _ zb
              replace st := st.below d3
              clear d3 e2 C3
              have ksv : (sv != sv) = false := by simp
              go_wp2_with fail
              refine (C4 _ st).mono ?_
              rintro e x4 ⟨Al, cl, rfl, sl, d4⟩
              have e4 := below_trans e3 d4
              replace zb := cell_below d4 _ _ zb
              clear d4 e3 C4 st
              go_wp2_with fail
              refine (C5 _ (h0.below e4) (h1.below e4)).mono ?_
              rintro e x5 ⟨Ae, ce, rfl, se, d5⟩
              have e5 := below_trans e4 d5
              replace zb := cell_below d5 _ _ zb
              replace sl := sl.below d5
              clear d5 e4 C5
              go_wp2_with fail
              refine (C6 _ (h0.below e5) (h1.below e5)).mono ?_
              rintro e x6 ⟨rfl, d6⟩
              have e6 := below_trans e5 d6
              replace sl := sl.below d6
              replace se := se.below d6
              clear d6 e5 C6
              have hle := HLE.out
              have hal := AAL.out
              go_wp2_with fail
              refine (SB Al Ae cl ce aa hal x6 sl se).mono ?_
              rintro e x7 ⟨rfl, d7⟩
              go_wp2_with fail
              go_ret
              exact ⟨rfl, below_trans e6 d7⟩
      · clear hd
        generalize dimB b = D at *
        generalize ckW r = cw at *
        have iw : (cw != 0) = true := by simpa using hw
        clear hw hrl
        go_enter Try.func3, Try.ntmps3
        go_wp2_with fail
        refine (lives_calls _).mono ?_
        rintro e w1 ⟨rfl, b1⟩
        have bt1 := below_trans b0 b1
        replace hbox := cell_below b1 _ _ hbox
        clear b0 b1
        go_wp2_with fail
        refine (LB _ bt1).mono ?_
        rintro e w2 ⟨rfl, b2⟩
        have bt2 := below_trans bt1 b2
        replace hbox := cell_below b2 _ _ hbox
        clear bt1 b2 LB
        go_wp2_with fail
        refine (RB _ bt2).mono ?_
        rintro e w3 ⟨rfl, b3⟩
        have bt3 := below_trans bt2 b3
        replace hbox := cell_below b3 _ _ hbox
        clear bt2 b3 RB
        go_wp2_with fail
        refine (RD _ bt3).mono ?_
        rintro e w4 ⟨rfl, b4⟩
        have bt4 := below_trans bt3 b4
        replace hbox := cell_below b4 _ _ hbox
        clear bt3 b4 RD
        go_wp2_with fail
        refine (RW _ bt4).mono ?_
        rintro e w5 ⟨rfl, b5⟩
        have bt5 := below_trans bt4 b5
        replace hbox := cell_below b5 _ _ hbox
        clear bt4 b5 RW
        go_wp2_with fail
        go_ret
        exact ⟨rfl, bt5⟩
    · have ir : ((r.length : Int) != dimB b) = true := by rw [hd]; simp; omega
      clear hd hrl
      generalize dimB b = D at *
      go_enter Try.func3, Try.ntmps3
      go_wp2_with fail
      refine (lives_calls _).mono ?_
      rintro e w1 ⟨rfl, b1⟩
      have bt1 := below_trans b0 b1
      replace hbox := cell_below b1 _ _ hbox
      clear b0 b1
      go_wp2_with fail
      refine (LB _ bt1).mono ?_
      rintro e w2 ⟨rfl, b2⟩
      have bt2 := below_trans bt1 b2
      replace hbox := cell_below b2 _ _ hbox
      clear bt1 b2 LB
      go_wp2_with fail
      refine (RB _ bt2).mono ?_
      rintro e w3 ⟨rfl, b3⟩
      have bt3 := below_trans bt2 b3
      replace hbox := cell_below b3 _ _ hbox
      clear bt2 b3 RB
      go_wp2_with fail
      refine (RD _ bt3).mono ?_
      rintro e w4 ⟨rfl, b4⟩
      have bt4 := below_trans bt3 b4
      replace hbox := cell_below b4 _ _ hbox
      clear bt3 b4 RD
      go_wp2_with fail
      go_ret
      exact ⟨rfl, bt4⟩
  · generalize ckB b = ck at *
    have ick : (ck != 0) = true := by simpa using hck
    clear hck
    go_enter Try.func3, Try.ntmps3
    go_wp2_with fail
    refine (lives_calls _).mono ?_
    rintro e w1 ⟨rfl, b1⟩
    have bt1 := below_trans b0 b1
    replace hbox := cell_below b1 _ _ hbox
    clear b0 b1
    go_wp2_with fail
    refine (LB _ bt1).mono ?_
    rintro e w2 ⟨rfl, b2⟩
    have bt2 := below_trans bt1 b2
    replace hbox := cell_below b2 _ _ hbox
    clear bt1 b2 LB
    go_wp2_with fail
    refine (RB _ bt2).mono ?_
    rintro e w3 ⟨rfl, b3⟩
    have bt3 := below_trans bt2 b3
    replace hbox := cell_below b3 _ _ hbox
    clear bt2 b3 RB
    go_wp2_with fail
    go_ret
    exact ⟨rfl, bt3⟩
end Go.Proofs.Ythpgaggceefamaa
