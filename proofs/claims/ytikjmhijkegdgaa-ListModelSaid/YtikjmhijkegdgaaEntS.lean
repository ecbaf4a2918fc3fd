/- Slices of entries: compared, searched. -/
import Derived.Test.YtikjmhijkegdgaaEntF
import Derived.Test.YtikjmhijkegdgaaRoundRegion
import Derived.Test.YtikjmhijkegdgaaOneQ
import Derived.Deep.DrawnRows
namespace Go.Proofs.Ytikjmhijkegdgaa
set_option linter.unusedVariables false
set_option linter.unusedSimpArgs false
open Go.RowKit
theorem ents_ext {a b : List En} (hl : a.length = b.length) (h : ∀ i, i < a.length → a.getD i ⟨0, [], 0, false⟩ = b.getD i ⟨0, [], 0, false⟩) : a = b :=
  List.ext_getElem hl fun i h1 h2 => by have := h i h1; simpa [List.getD_eq_getElem?_getD, h1, h2] using this
set_option maxHeartbeats 1000000 in
theorem Entries_calls (A B : Option Addr) (c d : Nat) (xs ys : List En) (w : World) (h : SlE w A c xs) (k : SlE w B d ys) :
    Calls Try.prog 17 #[.slice A xs.length c, .slice B ys.length d] w fun e w' => e = .returned (.bool (decide (xs = ys))) ∧ Below w.heap.size w w' := by
  have hm := h.len'
  have km := k.len'
  have hmix : Try.prog.follows .mixedOrders = true := by kernel_rfl
  by_cases hl : xs.length = ys.length
  · have hb : ((xs.length : Int) != (ys.length : Int)) = false := by simp [hl]
    have HL := Lib.hid hl
    clear hl
    go_enter Try.func17, Try.ntmps17
    go_wp2_with fail
    go_loopg [5] (xs.length + 1) (fun gk i w' => ∃ j : Nat, i = .int .i64 (j : Int) ∧ j ≤ xs.length ∧ xs.length < j + gk ∧ Hid (∀ t, t < j → xs.getD t ⟨0, [], 0, false⟩ = ys.getD t ⟨0, [], 0, false⟩) ∧ Below w.heap.size w w')
    case atStart => exact ⟨0, rfl, by omega, by omega, (fun _ h => absurd h (by omega)), Below.refl _ _⟩
    case round =>
      obtain ⟨j, rfl, hj, hg, HE, bw⟩ := hrel
      by_cases hlt : j < xs.length
      · have hlt2 : j < ys.length := by have := HL.out; omega
        obtain ⟨ad, B1, d1, rfl, hx, hxs⟩ := (h.below bw).get j hlt
        obtain ⟨bd, B2, d2, rfl, hy, hys⟩ := (k.below bw).get j hlt2
        have i1 : (j : Int) < (xs.length : Int) := by omega
        have i2 : (j : Int) < (ys.length : Int) := by omega
        have SM := fun W (hW : Below wr.heap.size wr W) => Entry_calls (xs.getD j ⟨0, [], 0, false⟩) (ys.getD j ⟨0, [], 0, false⟩) B1 B2 d1 d2 W (hxs.below hW) (hys.below hW)
        have HE2 := Lib.hid (fun (hh : xs.getD j ⟨0, [], 0, false⟩ = ys.getD j ⟨0, [], 0, false⟩) t (ht : t < j + 1) => show xs.getD t ⟨0, [], 0, false⟩ = ys.getD t ⟨0, [], 0, false⟩ by
          rcases Nat.lt_or_ge t j with h1 | h1
          · exact HE.out t h1
          · obtain rfl : t = j := by omega
            exact hh)
        have HF := Lib.hid (fun (hh : ¬ xs.getD j ⟨0, [], 0, false⟩ = ys.getD j ⟨0, [], 0, false⟩) => show xs ≠ ys from fun he => hh (by rw [he]))
        generalize xs.getD j ⟨0, [], 0, false⟩ = p at *
        generalize ys.getD j ⟨0, [], 0, false⟩ = q at *
        clear hxs hys
        by_cases he : p = q
        · rw [decide_eq_true he] at SM
          have HE3 := Lib.hid (HE2.out he)
          clear he HE2 HF
          go_wp2_with fail
          refine region_L (oneQ 99 (fun _ => True) (fun X => EntAt X (ad.add (j * 4)) p B1 d1 ∧ EntAt X (bd.add (j * 4)) q B2 d2)) hmix ?_
          have hS : oneQ 99 (fun _ => True) (fun X => EntAt X (ad.add (j * 4)) p B1 d1 ∧ EntAt X (bd.add (j * 4)) q B2 d2) (Array.replicate 10 false) wr.drew := ⟨fun _ => trivial, hx, hy⟩
          refine anyL_take (fun _ => True) [] (i := 0) (v := ?_) rfl (by kernel_rfl) (by kernel_rfl) (by kernel_rfl) (fun _ _ _ h => h) (by kernel_rfl) (one_ind (i := 0) (by decide)) (fun _ _ _ _ => trivial) (Or.inl ⟨by rfl, ?_⟩) hS ?_
          rotate_left
          · intro X hX
            clear hX
            go_simp
            try with_reducible rfl
          try simp only [List.getElem_toArray, List.getElem_cons_zero, List.getElem_cons_succ]
          simp only [Act.put, List.setIfInBounds_toArray, List.set_cons_zero, List.set_cons_succ]
          replace hS := (one_ind (i := 0) (by decide) _ _).2 hS
          refine anyL_take (fun _ => True) [] (i := 1) (v := ?_) rfl (by kernel_rfl) (by kernel_rfl) (by kernel_rfl) (fun _ _ _ h => h) (by kernel_rfl) (one_ind (i := 1) (by decide)) (fun _ _ _ _ => trivial) (Or.inl ⟨by rfl, ?_⟩) hS ?_
          rotate_left
          · intro X hX
            clear hX
            go_simp
            try with_reducible rfl
          try simp only [List.getElem_toArray, List.getElem_cons_zero, List.getElem_cons_succ]
          simp only [Act.put, List.setIfInBounds_toArray, List.set_cons_zero, List.set_cons_succ]
          replace hS := (one_ind (i := 1) (by decide) _ _).2 hS
          refine anyL_take (fun _ => True) [] (i := 2) (v := ?_) rfl (by kernel_rfl) (by kernel_rfl) (by kernel_rfl) (fun _ _ _ h => h) (by kernel_rfl) (one_ind (i := 2) (by decide)) (fun _ _ _ _ => trivial) (Or.inl ⟨by rfl, ?_⟩) hS ?_
          rotate_left
          · intro X hX
            clear hX
            go_simp
            try with_reducible rfl
          try simp only [List.getElem_toArray, List.getElem_cons_zero, List.getElem_cons_succ]
          simp only [Act.put, List.setIfInBounds_toArray, List.set_cons_zero, List.set_cons_succ]
          replace hS := (one_ind (i := 2) (by decide) _ _).2 hS
          refine anyL_take (fun X => EntAt X (ad.add (j * 4)) p B1 d1 ∧ EntAt X (bd.add (j * 4)) q B2 d2) [] (i := 3) (v := ?_) rfl (by kernel_rfl) (by kernel_rfl) (by kernel_rfl) (fun _ _ _ h => h) (by kernel_rfl) (one_ind (i := 3) (by decide)) (fun L X h1 h2 => h2.2) (Or.inl ⟨by rfl, ?_⟩) hS ?_
          rotate_left
          · intro X hX
            obtain ⟨⟨g0, g1, g2, g3⟩, ⟨g4, g5, g6, g7⟩⟩ := hX
            go_simp
            try with_reducible rfl
          try simp only [List.getElem_toArray, List.getElem_cons_zero, List.getElem_cons_succ]
          simp only [Act.put, List.setIfInBounds_toArray, List.set_cons_zero, List.set_cons_succ]
          replace hS := (one_ind (i := 3) (by decide) _ _).2 hS
          refine anyL_take (fun _ => True) [] (i := 4) (v := ?_) rfl (by kernel_rfl) (by kernel_rfl) (by kernel_rfl) (fun _ _ _ h => h) (by kernel_rfl) (one_ind (i := 4) (by decide)) (fun _ _ _ _ => trivial) (Or.inl ⟨by rfl, ?_⟩) hS ?_
          rotate_left
          · intro X hX
            clear hX
            go_simp
            try with_reducible rfl
          try simp only [List.getElem_toArray, List.getElem_cons_zero, List.getElem_cons_succ]
          simp only [Act.put, List.setIfInBounds_toArray, List.set_cons_zero, List.set_cons_succ]
          replace hS := (one_ind (i := 4) (by decide) _ _).2 hS
          refine anyL_take (fun _ => True) [] (i := 5) (v := ?_) rfl (by kernel_rfl) (by kernel_rfl) (by kernel_rfl) (fun _ _ _ h => h) (by kernel_rfl) (one_ind (i := 5) (by decide)) (fun _ _ _ _ => trivial) (Or.inl ⟨by rfl, ?_⟩) hS ?_
          rotate_left
          · intro X hX
            clear hX
            go_simp
            try with_reducible rfl
          try simp only [List.getElem_toArray, List.getElem_cons_zero, List.getElem_cons_succ]
          simp only [Act.put, List.setIfInBounds_toArray, List.set_cons_zero, List.set_cons_succ]
          replace hS := (one_ind (i := 5) (by decide) _ _).2 hS
          refine anyL_take (fun _ => True) [] (i := 6) (v := ?_) rfl (by kernel_rfl) (by kernel_rfl) (by kernel_rfl) (fun _ _ _ h => h) (by kernel_rfl) (one_ind (i := 6) (by decide)) (fun _ _ _ _ => trivial) (Or.inl ⟨by rfl, ?_⟩) hS ?_
          rotate_left
          · intro X hX
            clear hX
            go_simp
            try with_reducible rfl
          try simp only [List.getElem_toArray, List.getElem_cons_zero, List.getElem_cons_succ]
          simp only [Act.put, List.setIfInBounds_toArray, List.set_cons_zero, List.set_cons_succ]
          replace hS := (one_ind (i := 6) (by decide) _ _).2 hS
          refine anyL_take (fun X => EntAt X (ad.add (j * 4)) p B1 d1 ∧ EntAt X (bd.add (j * 4)) q B2 d2) [] (i := 7) (v := ?_) rfl (by kernel_rfl) (by kernel_rfl) (by kernel_rfl) (fun _ _ _ h => h) (by kernel_rfl) (one_ind (i := 7) (by decide)) (fun L X h1 h2 => h2.2) (Or.inl ⟨by rfl, ?_⟩) hS ?_
          rotate_left
          · intro X hX
            obtain ⟨⟨g0, g1, g2, g3⟩, ⟨g4, g5, g6, g7⟩⟩ := hX
            go_simp
            try with_reducible rfl
          try simp only [List.getElem_toArray, List.getElem_cons_zero, List.getElem_cons_succ]
          simp only [Act.put, List.setIfInBounds_toArray, List.set_cons_zero, List.set_cons_succ]
          replace hS := (one_ind (i := 7) (by decide) _ _).2 hS
          clear hS
          have bd0 : Below wr.heap.size wr wr.drew := (Below.refl _ _).drew
          refine anyL_step (i := 8) (by kernel_rfl) rfl (by rfl) (fun K hK => ?_)
          go_simp
          refine (SM _ bd0).mono ?_
          rintro e w1 ⟨rfl, b1⟩
          have b2 := below_trans bd0 b1
          dsimp only
          refine hK.out _ _ ⟨fun _ => trivial, hx.below b2, hy.below b2⟩ ?_
          clear hK K
          try simp only [Act.put, List.setIfInBounds_toArray, List.set_cons_zero, List.set_cons_succ]
          have hS : oneQ 99 (fun _ => True) (fun X => EntAt X (ad.add (j * 4)) p B1 d1 ∧ EntAt X (bd.add (j * 4)) q B2 d2) ((((((((((Array.replicate 10 false).setIfInBounds 0 true).setIfInBounds 1 true).setIfInBounds 2 true).setIfInBounds 3 true).setIfInBounds 4 true).setIfInBounds 5 true).setIfInBounds 6 true).setIfInBounds 7 true).setIfInBounds 8 true) w1 := ⟨fun _ => trivial, hx.below b2, hy.below b2⟩
          refine anyL_take (fun _ => True) [] (i := 9) (v := ?_) rfl (by kernel_rfl) (by kernel_rfl) (by kernel_rfl) (fun _ _ _ h => h) (by kernel_rfl) (one_ind (i := 9) (by decide)) (fun _ _ _ _ => trivial) (Or.inl ⟨by rfl, ?_⟩) hS ?_
          rotate_left
          · intro X hX
            clear hX
            go_simp
            try with_reducible rfl
          try simp only [List.getElem_toArray, List.getElem_cons_zero, List.getElem_cons_succ]
          simp only [Act.put, List.setIfInBounds_toArray, List.set_cons_zero, List.set_cons_succ]
          replace hS := (one_ind (i := 9) (by decide) _ _).2 hS
          refine anyL_done (by kernel_rfl) ?_ _
          have b4 := below_trans bw b2
          clear hS b1 b2 bd0 bw hx hy
          go_wp2_with fail
          go_roundg (gk - 1)
          case measure => omega
          case rel => exact ⟨j + 1, by simp, by omega, by omega, HE3.out, b4⟩
        · rw [decide_eq_false he] at SM
          have HF2 := Lib.hid (HF.out he)
          clear he HE2 HF
          go_wp2_with fail
          refine region_L (oneQ 99 (fun _ => True) (fun X => EntAt X (ad.add (j * 4)) p B1 d1 ∧ EntAt X (bd.add (j * 4)) q B2 d2)) hmix ?_
          have hS : oneQ 99 (fun _ => True) (fun X => EntAt X (ad.add (j * 4)) p B1 d1 ∧ EntAt X (bd.add (j * 4)) q B2 d2) (Array.replicate 10 false) wr.drew := ⟨fun _ => trivial, hx, hy⟩
          refine anyL_take (fun _ => True) [] (i := 0) (v := ?_) rfl (by kernel_rfl) (by kernel_rfl) (by kernel_rfl) (fun _ _ _ h => h) (by kernel_rfl) (one_ind (i := 0) (by decide)) (fun _ _ _ _ => trivial) (Or.inl ⟨by rfl, ?_⟩) hS ?_
          rotate_left
          · intro X hX
            clear hX
            go_simp
            try with_reducible rfl
          try simp only [List.getElem_toArray, List.getElem_cons_zero, List.getElem_cons_succ]
          simp only [Act.put, List.setIfInBounds_toArray, List.set_cons_zero, List.set_cons_succ]
          replace hS := (one_ind (i := 0) (by decide) _ _).2 hS
          refine anyL_take (fun _ => True) [] (i := 1) (v := ?_) rfl (by kernel_rfl) (by kernel_rfl) (by kernel_rfl) (fun _ _ _ h => h) (by kernel_rfl) (one_ind (i := 1) (by decide)) (fun _ _ _ _ => trivial) (Or.inl ⟨by rfl, ?_⟩) hS ?_
          rotate_left
          · intro X hX
            clear hX
            go_simp
            try with_reducible rfl
          try simp only [List.getElem_toArray, List.getElem_cons_zero, List.getElem_cons_succ]
          simp only [Act.put, List.setIfInBounds_toArray, List.set_cons_zero, List.set_cons_succ]
          replace hS := (one_ind (i := 1) (by decide) _ _).2 hS
          refine anyL_take (fun _ => True) [] (i := 2) (v := ?_) rfl (by kernel_rfl) (by kernel_rfl) (by kernel_rfl) (fun _ _ _ h => h) (by kernel_rfl) (one_ind (i := 2) (by decide)) (fun _ _ _ _ => trivial) (Or.inl ⟨by rfl, ?_⟩) hS ?_
          rotate_left
          · intro X hX
            clear hX
            go_simp
            try with_reducible rfl
          try simp only [List.getElem_toArray, List.getElem_cons_zero, List.getElem_cons_succ]
          simp only [Act.put, List.setIfInBounds_toArray, List.set_cons_zero, List.set_cons_succ]
          replace hS := (one_ind (i := 2) (by decide) _ _).2 hS
          refine anyL_take (fun X => EntAt X (ad.add (j * 4)) p B1 d1 ∧ EntAt X (bd.add (j * 4)) q B2 d2) [] (i := 3) (v := ?_) rfl (by kernel_rfl) (by kernel_rfl) (by kernel_rfl) (fun _ _ _ h => h) (by kernel_rfl) (one_ind (i := 3) (by decide)) (fun L X h1 h2 => h2.2) (Or.inl ⟨by rfl, ?_⟩) hS ?_
          rotate_left
          · intro X hX
            obtain ⟨⟨g0, g1, g2, g3⟩, ⟨g4, g5, g6, g7⟩⟩ := hX
            go_simp
            try with_reducible rfl
          try simp only [List.getElem_toArray, List.getElem_cons_zero, List.getElem_cons_succ]
          simp only [Act.put, List.setIfInBounds_toArray, List.set_cons_zero, List.set_cons_succ]
          replace hS := (one_ind (i := 3) (by decide) _ _).2 hS
          refine anyL_take (fun _ => True) [] (i := 4) (v := ?_) rfl (by kernel_rfl) (by kernel_rfl) (by kernel_rfl) (fun _ _ _ h => h) (by kernel_rfl) (one_ind (i := 4) (by decide)) (fun _ _ _ _ => trivial) (Or.inl ⟨by rfl, ?_⟩) hS ?_
          rotate_left
          · intro X hX
            clear hX
            go_simp
            try with_reducible rfl
          try simp only [List.getElem_toArray, List.getElem_cons_zero, List.getElem_cons_succ]
          simp only [Act.put, List.setIfInBounds_toArray, List.set_cons_zero, List.set_cons_succ]
          replace hS := (one_ind (i := 4) (by decide) _ _).2 hS
          refine anyL_take (fun _ => True) [] (i := 5) (v := ?_) rfl (by kernel_rfl) (by kernel_rfl) (by kernel_rfl) (fun _ _ _ h => h) (by kernel_rfl) (one_ind (i := 5) (by decide)) (fun _ _ _ _ => trivial) (Or.inl ⟨by rfl, ?_⟩) hS ?_
          rotate_left
          · intro X hX
            clear hX
            go_simp
            try with_reducible rfl
          try simp only [List.getElem_toArray, List.getElem_cons_zero, List.getElem_cons_succ]
          simp only [Act.put, List.setIfInBounds_toArray, List.set_cons_zero, List.set_cons_succ]
          replace hS := (one_ind (i := 5) (by decide) _ _).2 hS
          refine anyL_take (fun _ => True) [] (i := 6) (v := ?_) rfl (by kernel_rfl) (by kernel_rfl) (by kernel_rfl) (fun _ _ _ h => h) (by kernel_rfl) (one_ind (i := 6) (by decide)) (fun _ _ _ _ => trivial) (Or.inl ⟨by rfl, ?_⟩) hS ?_
          rotate_left
          · intro X hX
            clear hX
            go_simp
            try with_reducible rfl
          try simp only [List.getElem_toArray, List.getElem_cons_zero, List.getElem_cons_succ]
          simp only [Act.put, List.setIfInBounds_toArray, List.set_cons_zero, List.set_cons_succ]
          replace hS := (one_ind (i := 6) (by decide) _ _).2 hS
          refine anyL_take (fun X => EntAt X (ad.add (j * 4)) p B1 d1 ∧ EntAt X (bd.add (j * 4)) q B2 d2) [] (i := 7) (v := ?_) rfl (by kernel_rfl) (by kernel_rfl) (by kernel_rfl) (fun _ _ _ h => h) (by kernel_rfl) (one_ind (i := 7) (by decide)) (fun L X h1 h2 => h2.2) (Or.inl ⟨by rfl, ?_⟩) hS ?_
          rotate_left
          · intro X hX
            obtain ⟨⟨g0, g1, g2, g3⟩, ⟨g4, g5, g6, g7⟩⟩ := hX
            go_simp
            try with_reducible rfl
          try simp only [List.getElem_toArray, List.getElem_cons_zero, List.getElem_cons_succ]
          simp only [Act.put, List.setIfInBounds_toArray, List.set_cons_zero, List.set_cons_succ]
          replace hS := (one_ind (i := 7) (by decide) _ _).2 hS
          clear hS
          have bd0 : Below wr.heap.size wr wr.drew := (Below.refl _ _).drew
          refine anyL_step (i := 8) (by kernel_rfl) rfl (by rfl) (fun K hK => ?_)
          go_simp
          refine (SM _ bd0).mono ?_
          rintro e w1 ⟨rfl, b1⟩
          have b2 := below_trans bd0 b1
          dsimp only
          refine hK.out _ _ ⟨fun _ => trivial, hx.below b2, hy.below b2⟩ ?_
          clear hK K
          try simp only [Act.put, List.setIfInBounds_toArray, List.set_cons_zero, List.set_cons_succ]
          have hS : oneQ 99 (fun _ => True) (fun X => EntAt X (ad.add (j * 4)) p B1 d1 ∧ EntAt X (bd.add (j * 4)) q B2 d2) ((((((((((Array.replicate 10 false).setIfInBounds 0 true).setIfInBounds 1 true).setIfInBounds 2 true).setIfInBounds 3 true).setIfInBounds 4 true).setIfInBounds 5 true).setIfInBounds 6 true).setIfInBounds 7 true).setIfInBounds 8 true) w1 := ⟨fun _ => trivial, hx.below b2, hy.below b2⟩
          refine anyL_take (fun _ => True) [] (i := 9) (v := ?_) rfl (by kernel_rfl) (by kernel_rfl) (by kernel_rfl) (fun _ _ _ h => h) (by kernel_rfl) (one_ind (i := 9) (by decide)) (fun _ _ _ _ => trivial) (Or.inl ⟨by rfl, ?_⟩) hS ?_
          rotate_left
          · intro X hX
            clear hX
            go_simp
            try with_reducible rfl
          try simp only [List.getElem_toArray, List.getElem_cons_zero, List.getElem_cons_succ]
          simp only [Act.put, List.setIfInBounds_toArray, List.set_cons_zero, List.set_cons_succ]
          replace hS := (one_ind (i := 9) (by decide) _ _).2 hS
          refine anyL_done (by kernel_rfl) ?_ _
          have b4 := below_trans bw b2
          clear hS b1 b2 bd0 bw hx hy
          go_wp2_with fail
          go_ret
          exact ⟨ret_bool (decide_eq_false HF2.out).symm, b4⟩
      · have i1 : ¬ (j : Int) < (xs.length : Int) := by omega
        have HF := Lib.hid (show xs = ys from ents_ext HL.out fun t ht => HE.out t (by omega))
        go_wp2_with fail
        go_ret
        exact ⟨ret_bool (decide_eq_true HF.out).symm, bw⟩
  · have hb : ((xs.length : Int) != (ys.length : Int)) = true := by simp; omega
    have HF := Lib.hid (show xs ≠ ys from fun hh => hl (by rw [hh]))
    clear hl
    go_enter Try.func17, Try.ntmps17
    go_wp2_with fail
    go_ret
    exact ⟨ret_bool (decide_eq_false HF.out).symm, Below.refl _ _⟩
end Go.Proofs.Ytikjmhijkegdgaa
