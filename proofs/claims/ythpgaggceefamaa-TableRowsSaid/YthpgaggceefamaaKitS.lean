/- wayfinderkit: Light, Lists, OwnLists. -/
import Derived.Test.YthpgaggceefamaaKit
import Derived.Test.YthpgaggceefamaaMemV
import Derived.Deep.RegionHeld3
namespace Go.Proofs.Ythpgaggceefamaa
set_option linter.unusedVariables false
set_option linter.unusedSimpArgs false
open Go.RowKit
def lightB (xss : List (List Int)) (many long : Int) : Bool := decide ((xss.length : Int) ≤ many) && xss.all fun l => decide ((l.length : Int) ≤ long)
theorem lightB_true {xss : List (List Int)} {many long : Int} (h : lightB xss many long = true) : (xss.length : Int) ≤ many ∧ ∀ j, j < xss.length → ((xss.getD j []).length : Int) ≤ long := by
  unfold lightB at h
  simp only [Bool.and_eq_true, decide_eq_true_eq, List.all_eq_true] at h
  refine ⟨h.1, fun j hj => h.2 _ ?_⟩
  rw [List.getD_eq_getElem?_getD, List.getElem?_eq_getElem hj]; exact List.getElem_mem hj
theorem lightB_of {xss : List (List Int)} {many long : Int} (h : (xss.length : Int) ≤ many) (h2 : ∀ j, j < xss.length → ((xss.getD j []).length : Int) ≤ long) : lightB xss many long = true := by
  unfold lightB
  simp only [Bool.and_eq_true, decide_eq_true_eq, List.all_eq_true]
  refine ⟨h, fun l hl => ?_⟩
  obtain ⟨j, hj, rfl⟩ := List.mem_iff_getElem.1 hl
  have := h2 j hj
  rwa [List.getD_eq_getElem?_getD, List.getElem?_eq_getElem hj] at this
theorem lists_ext {a b : List (List Int)} (hl : a.length = b.length) (h : ∀ i, i < a.length → a.getD i [] = b.getD i []) : a = b :=
  List.ext_getElem hl fun t h1 h2 => by simpa [List.getD_eq_getElem?_getD, h1, h2] using h t h1
theorem Light_int32_calls (A : Option Addr) (c : Nat) (xss : List (List Int)) (many long : Int) (w : World) (h : SlS w .i32 A c xss) :
    Calls Try.prog 38 #[.slice A xss.length c, .int .i64 many, .int .i64 long] w fun e w' => e = .returned (.bool (lightB xss many long)) ∧ w = w' := by
  have hm := h.len
  by_cases h1 : (xss.length : Int) > many
  · have H := Lib.hid (show lightB xss many long = false by unfold lightB; rw [decide_eq_false (by omega)]; rfl)
    go_enter Try.func38, Try.ntmps38
    go_wp2_with fail
    go_ret
    exact ⟨ret_bool H.out.symm, rfl⟩
  · go_enter Try.func38, Try.ntmps38
    go_wp2_with fail
    go_loopg [7] (xss.length + 1) (fun gk i w' => ∃ j : Nat, i = .int .i64 (j : Int) ∧ j ≤ xss.length ∧ xss.length < j + gk ∧ Hid (∀ t, t < j → ((xss.getD t []).length : Int) ≤ long) ∧ w = w')
    case atStart => exact ⟨0, rfl, by omega, by omega, (fun _ h => absurd h (by omega)), rfl⟩
    case round =>
      obtain ⟨j, rfl, hj, hg, HA, rfl⟩ := hrel
      by_cases hlt : j < xss.length
      · have j1 : (j : Int) < (xss.length : Int) := by omega
        obtain ⟨ad, B, d, rfl, hc, hs⟩ := h.get j hlt
        have hsl := hs.len
        by_cases h2 : ((xss.getD j []).length : Int) > long
        · have H := Lib.hid (show lightB xss many long = false by
            cases hh : lightB xss many long with
            | false => rfl
            | true => have := (lightB_true hh).2 j hlt; omega)
          generalize (xss.getD j []).length = n at *
          go_wp2_with fail
          go_ret
          exact ⟨ret_bool H.out.symm, rfl⟩
        · have HB := Lib.hid (show ∀ t, t < j + 1 → ((xss.getD t []).length : Int) ≤ long from fun t ht => by
            rcases Nat.lt_or_ge t j with h3 | h3
            · exact HA.out t h3
            · obtain rfl : t = j := by omega
              omega)
          generalize (xss.getD j []).length = n at *
          go_wp2_with fail
          go_roundg (gk - 1)
          case measure => omega
          case rel => exact ⟨j + 1, by simp, by omega, by omega, HB.out, rfl⟩
      · have j1 : ¬ (j : Int) < (xss.length : Int) := by omega
        have H := Lib.hid (lightB_of (by omega) (fun t ht => HA.out t (by omega)) : lightB xss many long = true)
        go_wp2_with fail
        go_ret
        exact ⟨ret_bool H.out.symm, rfl⟩
theorem Light_int64_calls (A : Option Addr) (c : Nat) (xss : List (List Int)) (many long : Int) (w : World) (h : SlS w .i64 A c xss) :
    Calls Try.prog 51 #[.slice A xss.length c, .int .i64 many, .int .i64 long] w fun e w' => e = .returned (.bool (lightB xss many long)) ∧ w = w' := by
  have hm := h.len
  by_cases h1 : (xss.length : Int) > many
  · have H := Lib.hid (show lightB xss many long = false by unfold lightB; rw [decide_eq_false (by omega)]; rfl)
    go_enter Try.func51, Try.ntmps51
    go_wp2_with fail
    go_ret
    exact ⟨ret_bool H.out.symm, rfl⟩
  · go_enter Try.func51, Try.ntmps51
    go_wp2_with fail
    go_loopg [7] (xss.length + 1) (fun gk i w' => ∃ j : Nat, i = .int .i64 (j : Int) ∧ j ≤ xss.length ∧ xss.length < j + gk ∧ Hid (∀ t, t < j → ((xss.getD t []).length : Int) ≤ long) ∧ w = w')
    case atStart => exact ⟨0, rfl, by omega, by omega, (fun _ h => absurd h (by omega)), rfl⟩
    case round =>
      obtain ⟨j, rfl, hj, hg, HA, rfl⟩ := hrel
      by_cases hlt : j < xss.length
      · have j1 : (j : Int) < (xss.length : Int) := by omega
        obtain ⟨ad, B, d, rfl, hc, hs⟩ := h.get j hlt
        have hsl := hs.len
        by_cases h2 : ((xss.getD j []).length : Int) > long
        · have H := Lib.hid (show lightB xss many long = false by
            cases hh : lightB xss many long with
            | false => rfl
            | true => have := (lightB_true hh).2 j hlt; omega)
          generalize (xss.getD j []).length = n at *
          go_wp2_with fail
          go_ret
          exact ⟨ret_bool H.out.symm, rfl⟩
        · have HB := Lib.hid (show ∀ t, t < j + 1 → ((xss.getD t []).length : Int) ≤ long from fun t ht => by
            rcases Nat.lt_or_ge t j with h3 | h3
            · exact HA.out t h3
            · obtain rfl : t = j := by omega
              omega)
          generalize (xss.getD j []).length = n at *
          go_wp2_with fail
          go_roundg (gk - 1)
          case measure => omega
          case rel => exact ⟨j + 1, by simp, by omega, by omega, HB.out, rfl⟩
      · have j1 : ¬ (j : Int) < (xss.length : Int) := by omega
        have H := Lib.hid (lightB_of (by omega) (fun t ht => HA.out t (by omega)) : lightB xss many long = true)
        go_wp2_with fail
        go_ret
        exact ⟨ret_bool H.out.symm, rfl⟩
theorem Lists_int64_calls (A B : Option Addr) (c d : Nat) (xss yss : List (List Int)) (w : World) (h : SlS w .i64 A c xss) (k : SlS w .i64 B d yss) :
    Calls Try.prog 35 #[.slice A xss.length c, .slice B yss.length d] w fun e w' => e = .returned (.bool (decide (xss = yss))) ∧ Below w.heap.size w w' := by
  have hm := h.len
  have km := k.len
  by_cases hl : xss.length = yss.length
  · have hb : ((xss.length : Int) != (yss.length : Int)) = false := by simp [hl]
    have HL := Lib.hid hl
    clear hl
    go_enter Try.func35, Try.ntmps35
    go_wp2_with fail
    go_loopg [5] (xss.length + 1) (fun gk i w' => ∃ j : Nat, i = .int .i64 (j : Int) ∧ j ≤ xss.length ∧ xss.length < j + gk ∧ Hid (∀ t, t < j → xss.getD t [] = yss.getD t []) ∧ Below w.heap.size w w')
    case atStart => exact ⟨0, rfl, by omega, by omega, (fun _ h => absurd h (by omega)), Below.refl _ _⟩
    case round =>
      obtain ⟨j, rfl, hj, hg, HE, bw⟩ := hrel
      by_cases hlt : j < xss.length
      · have hlt2 : j < yss.length := by have := HL.out; omega
        obtain ⟨ad, C, e, rfl, hx, hxs⟩ := (h.below bw).get j hlt
        obtain ⟨bd, D, f, rfl, hy, hys⟩ := (k.below bw).get j hlt2
        have i1 : (j : Int) < (xss.length : Int) := by omega
        have i2 : (j : Int) < (yss.length : Int) := by omega
        have i0 : (0 : Int) ≤ (j : Int) := by omega
        have SM := fun (W : World) (hW : Below wr.heap.size wr W) => Same_int64_b C D e f (xss.getD j []) (yss.getD j []) W (hxs.below hW) (hys.below hW)
        have HE2 := Lib.hid (fun (hh : xss.getD j [] = yss.getD j []) t (ht : t < j + 1) => show xss.getD t [] = yss.getD t [] by
          rcases Nat.lt_or_ge t j with h1 | h1
          · exact HE.out t h1
          · obtain rfl : t = j := by omega
            exact hh)
        have HF := Lib.hid (fun (hh : ¬ xss.getD j [] = yss.getD j []) => show xss ≠ yss from fun he => hh (by rw [he]))
        generalize xss.getD j [] = p at *
        generalize yss.getD j [] = q at *
        clear hxs hys
        by_cases he : p = q
        · rw [decide_eq_true he] at SM
          have HE3 := Lib.hid (HE2.out he)
          clear he HE2 HF
          go_wp2_with fail
          go_region_held3 (fun W => W.cell? (ad.add j) = some (.slice C p.length e) ∧ W.cell? (bd.add j) = some (.slice D q.length f)) (first | go_keep | exact ⟨cell_below ‹_› _ _ (by assumption), cell_below ‹_› _ _ (by assumption)⟩)
            (first
              | (go_at_call 24; refine (SM _ (below_drewN (Below.refl _ _) 1)).mono ?_; rintro e w3 ⟨rfl, b3⟩))
          have b4 := below_trans bw (below_trans (below_drewN (Below.refl _ _) 1) b3)
          clear b3 bw hx hy SM
          go_wp2_with fail
          go_roundg (gk - 1)
          case measure => omega
          case rel => exact ⟨j + 1, by simp, by omega, by omega, HE3.out, b4⟩
        · rw [decide_eq_false he] at SM
          have HF2 := Lib.hid (HF.out he)
          clear he HE2 HF
          go_wp2_with fail
          go_region_held3 (fun W => W.cell? (ad.add j) = some (.slice C p.length e) ∧ W.cell? (bd.add j) = some (.slice D q.length f)) (first | go_keep | exact ⟨cell_below ‹_› _ _ (by assumption), cell_below ‹_› _ _ (by assumption)⟩)
            (first
              | (go_at_call 24; refine (SM _ (below_drewN (Below.refl _ _) 1)).mono ?_; rintro e w3 ⟨rfl, b3⟩))
          have b4 := below_trans bw (below_trans (below_drewN (Below.refl _ _) 1) b3)
          clear b3 bw hx hy SM
          go_wp2_with fail
          go_ret
          exact ⟨ret_bool (decide_eq_false HF2.out).symm, b4⟩
      · have i1 : ¬ (j : Int) < (xss.length : Int) := by omega
        have HF := Lib.hid (show xss = yss from lists_ext HL.out fun t ht => HE.out t (by omega))
        go_wp2_with fail
        go_ret
        exact ⟨ret_bool (decide_eq_true HF.out).symm, bw⟩
  · have hb : ((xss.length : Int) != (yss.length : Int)) = true := by simp; omega
    have HF := Lib.hid (show xss ≠ yss from fun hh => hl (by rw [hh]))
    clear hl
    go_enter Try.func35, Try.ntmps35
    go_wp2_with fail
    go_ret
    exact ⟨ret_bool (decide_eq_false HF.out).symm, Below.refl _ _⟩
/-- Behind OwnLists. -/
theorem OwnLists_int32_calls (A : Option Addr) (c : Nat) (xss : List (List Int)) (w : World) (h : SlS w .i32 A c xss) (hl : xss.length ≤ 1000000) (hl2 : ∀ j, j < xss.length → (xss.getD j []).length ≤ 1000000) :
    Calls Try.prog 55 #[.slice A xss.length c] w fun e w' => ∃ A' c', e = .returned (.slice A' xss.length c') ∧ OwnS w' w.heap.size 25 .i32 A' c' xss ∧ Below w.heap.size w w' := by
  have hm := h.len
  go_enter Try.func55, Try.ntmps55
  go_wp2_with fail
  go_loopg [3, 4] (xss.length + 1) (fun gk o i w' => ∃ (j : Nat) (A1 : Option Addr) (c1 : Nat), i = .int .i64 (j : Int) ∧ o = .slice A1 j c1 ∧ j ≤ xss.length ∧ xss.length < j + gk ∧ OwnS w' w.heap.size 25 .i32 A1 c1 (xss.take j) ∧ Below w.heap.size w w')
  case atStart => exact ⟨0, none, 0, rfl, rfl, by omega, by omega, by rw [List.take_zero]; exact OwnS.nil _ _ _ _, Below.refl _ _⟩
  case round =>
    obtain ⟨j, A1, c1, rfl, rfl, hj, hg, ho, bw⟩ := hrel
    by_cases hlt : j < xss.length
    · have i1 : (j : Int) < (xss.length : Int) := by omega
      obtain ⟨ad, C, e, rfl, hx, hxs⟩ := (h.below bw).get j hlt
      have hle := hl2 j hlt
      have htk : xss.take (j + 1) = xss.take j ++ [xss.getD j []] := by rw [List.take_add_one, List.getElem?_eq_getElem hlt, List.getD_eq_getElem?_getD, List.getElem?_eq_getElem hlt]; rfl
      have HT := Lib.hid htk
      clear htk
      obtain ⟨vs, ov, rv⟩ := ho
      have hvl : vs.length = j := by rw [rv.1, List.length_take]; omega
      generalize xss.getD j [] = p at *
      generalize xss.take j = tk at *
      subst hvl
      go_wp2_with fail
      refine (Own_int32_calls C e p _ hxs (by omega)).mono ?_
      rintro e2 w1 ⟨A2, c2, rfl, o2, b2⟩
      have ov1 := own_below ov b2
      have rv1 := rv.below b2
      have bw1 := below_trans bw b2
      go_wp2_with (at_builtin; refine app_val w.heap.size rfl _ _ 41 25 (.slice none 0 0) 24 rfl Try.underlying41 (by kernel_rfl) (by decide) rfl A1 c1 vs (.slice A2 p.length c2) rfl rfl ov1 rfl bw1.size (by omega) ?_)
      intro B1 d1 w3 o3 hg3 hat
      have zS := ownS_app1 rv1 ov1 o2 (fun k hk => (ov.lt k hk).2) bw.size o3 hg3 (by simpa using hat) b2.size
      have bw3 : Below w.heap.size w w3 := (bw1.alloc bw1.size _).grown hg3 (by have := bw1.size; simp; omega) (fun k hk => own_base ov1 k hk)
      rw [← HT.out] at zS
      clear hg3 hat o3 o2 ov1 rv1 ov rv hx hxs b2 bw bw1
      go_wp2_with fail
      go_roundg (gk - 1)
      case measure => omega
      case rel => exact ⟨vs.length + 1, B1, d1, by simp, by simp, by omega, by omega, zS, bw3⟩
    · have i1 : ¬ (j : Int) < (xss.length : Int) := by omega
      obtain rfl : j = xss.length := by omega
      rw [List.take_length] at ho
      go_wp2_with fail
      go_ret
      exact ⟨A1, c1, rfl, ho, bw⟩
/-- Behind OwnLists. -/
theorem OwnLists_int64_calls (A : Option Addr) (c : Nat) (xss : List (List Int)) (w : World) (h : SlS w .i64 A c xss) (hl : xss.length ≤ 1000000) (hl2 : ∀ j, j < xss.length → (xss.getD j []).length ≤ 1000000) :
    Calls Try.prog 27 #[.slice A xss.length c] w fun e w' => ∃ A' c', e = .returned (.slice A' xss.length c') ∧ OwnS w' w.heap.size 55 .i64 A' c' xss ∧ Below w.heap.size w w' := by
  have hm := h.len
  go_enter Try.func27, Try.ntmps27
  go_wp2_with fail
  go_loopg [3, 4] (xss.length + 1) (fun gk o i w' => ∃ (j : Nat) (A1 : Option Addr) (c1 : Nat), i = .int .i64 (j : Int) ∧ o = .slice A1 j c1 ∧ j ≤ xss.length ∧ xss.length < j + gk ∧ OwnS w' w.heap.size 55 .i64 A1 c1 (xss.take j) ∧ Below w.heap.size w w')
  case atStart => exact ⟨0, none, 0, rfl, rfl, by omega, by omega, by rw [List.take_zero]; exact OwnS.nil _ _ _ _, Below.refl _ _⟩
  case round =>
    obtain ⟨j, A1, c1, rfl, rfl, hj, hg, ho, bw⟩ := hrel
    by_cases hlt : j < xss.length
    · have i1 : (j : Int) < (xss.length : Int) := by omega
      obtain ⟨ad, C, e, rfl, hx, hxs⟩ := (h.below bw).get j hlt
      have hle := hl2 j hlt
      have htk : xss.take (j + 1) = xss.take j ++ [xss.getD j []] := by rw [List.take_add_one, List.getElem?_eq_getElem hlt, List.getD_eq_getElem?_getD, List.getElem?_eq_getElem hlt]; rfl
      have HT := Lib.hid htk
      clear htk
      obtain ⟨vs, ov, rv⟩ := ho
      have hvl : vs.length = j := by rw [rv.1, List.length_take]; omega
      generalize xss.getD j [] = p at *
      generalize xss.take j = tk at *
      subst hvl
      go_wp2_with fail
      refine (Own_int64_calls C e p _ hxs (by omega)).mono ?_
      rintro e2 w1 ⟨A2, c2, rfl, o2, b2⟩
      have ov1 := own_below ov b2
      have rv1 := rv.below b2
      have bw1 := below_trans bw b2
      go_wp2_with (at_builtin; refine app_val w.heap.size rfl _ _ 33 55 (.slice none 0 0) 24 rfl Try.underlying33 (by kernel_rfl) (by decide) rfl A1 c1 vs (.slice A2 p.length c2) rfl rfl ov1 rfl bw1.size (by omega) ?_)
      intro B1 d1 w3 o3 hg3 hat
      have zS := ownS_app1 rv1 ov1 o2 (fun k hk => (ov.lt k hk).2) bw.size o3 hg3 (by simpa using hat) b2.size
      have bw3 : Below w.heap.size w w3 := (bw1.alloc bw1.size _).grown hg3 (by have := bw1.size; simp; omega) (fun k hk => own_base ov1 k hk)
      rw [← HT.out] at zS
      clear hg3 hat o3 o2 ov1 rv1 ov rv hx hxs b2 bw bw1
      go_wp2_with fail
      go_roundg (gk - 1)
      case measure => omega
      case rel => exact ⟨vs.length + 1, B1, d1, by simp, by simp, by omega, by omega, zS, bw3⟩
    · have i1 : ¬ (j : Int) < (xss.length : Int) := by omega
      obtain rfl : j = xss.length := by omega
      rw [List.take_length] at ho
      go_wp2_with fail
      go_ret
      exact ⟨A1, c1, rfl, ho, bw⟩
end Go.Proofs.Ythpgaggceefamaa
