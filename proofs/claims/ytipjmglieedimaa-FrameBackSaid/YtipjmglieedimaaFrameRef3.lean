import Derived.Test.YtipjmglieedimaaFrameRef2
import Derived.Test.YtipjmglieedimaaKitS
namespace Go.Proofs.Ytipjmglieedimaa
set_option linter.unusedVariables false
set_option linter.unusedSimpArgs false
open Go.RowKit
set_option maxHeartbeats 1000000 in
theorem RScan_calls (A : Option Addr) (c : Nat) (b : List Int) (w : World) (h : SlI w .u8 A c b) (hb : Bytes b) (hl : b.length ≤ 1000000) :
    Calls Try.prog 24 #[.slice A b.length c] w fun e w' => ∃ A' c', e = .returned (.tuple #[.slice A' (scanR b).length c', .int .i64 (used (scanR b))]) ∧ OwnS w' w.heap.size 22 .u8 A' c' (scanR b) ∧ Below w.heap.size w w' := by
  have hle := h.le
  obtain ⟨i0, hi, _, hz1, _⟩ := info_parts (P := Try.prog) (e := 5) (z := .int .u8 0) (size := 1) (bytes := 1) (by kernel_rfl)
  go_enter Try.func24, Try.ntmps24
  go_wp2_with fail
  go_loopg [4, 5] ((scanR b).length + 1) (fun gk o i w' => ∃ (k : Nat) (A1 : Option Addr) (c1 : Nat), i = .int .i64 (used ((scanR b).take k) : Int) ∧ o = .slice A1 ((scanR b).take k).length c1 ∧ k ≤ (scanR b).length ∧ (scanR b).length < k + gk ∧ OwnS w' w.heap.size 22 .u8 A1 c1 ((scanR b).take k) ∧ Below w.heap.size w w')
  case atStart => exact ⟨0, none, 0, rfl, rfl, by omega, by omega, OwnS.nil _ _ _ _, Below.refl _ _⟩
  case round =>
    obtain ⟨k, A1, c1, rfl, rfl, hk, hg, ho, bw⟩ := hrel
    have hsp := scanR_spec hb hk
    obtain ⟨A5, hcut, hA1, _⟩ := cut_l_i (P := Try.prog) 22 5 .i64 Try.underlying22 hi hz1 A b.length c (used ((scanR b).take k)) (used ((scanR b).take k) : Int) rfl hsp.1 hle (b.drop (used ((scanR b).take k))).length (c - used ((scanR b).take k)) (by rw [List.length_drop]) rfl
    have sD := hA1 wr .u8 b rfl (h.below bw)
    have RO := ROne_calls A5 (c - used ((scanR b).take k)) (b.drop (used ((scanR b).take k))) wr sD (hb.drop _) (by rw [List.length_drop]; omega)
    unfold OneOwn at RO
    have u0 : (0 : Int) ≤ (used ((scanR b).take k) : Int) := by omega
    have u1 : (used ((scanR b).take k) : Int) ≤ (b.length : Int) := by have := hsp.1; omega
    by_cases hlt : k < (scanR b).length
    · have hone := hsp.2.1 hlt
      have hus := used_take_succ hlt
      have hul := (scanR_spec hb (k := k + 1) (by omega)).1
      have htk : (scanR b).take (k + 1) = (scanR b).take k ++ [(scanR b).getD k []] := by rw [List.take_add_one, List.getElem?_eq_getElem hlt, List.getD_eq_getElem?_getD, List.getElem?_eq_getElem hlt]; rfl
      have hkl : 8 * ((scanR b).take k).length ≤ b.length := Nat.le_trans (used_len _) hsp.1
      rw [hone] at RO
      have HT := Lib.hid htk
      have HU := Lib.hid hus
      obtain ⟨vs, ov, rv⟩ := ho
      rw [hus] at hul
      have hvl := rv.1
      rw [← hvl] at hkl
      generalize (scanR b).getD k [] = pk at *
      generalize (scanR b).take k = tk at *
      generalize (b.drop (used tk)).length = nd at *
      generalize used tk = uk at *
      have HVL := Lib.hid hvl.symm
      rw [← hvl]
      clear hone hsp hus htk hA1 sD hvl
      go_wp2_with fail
      refine RO.mono ?_
      rintro e w1 ⟨A2, c2, rfl, o2, b2⟩
      have ov1 := own_below ov b2
      have rv1 := rv.below b2
      have bw1 := below_trans bw b2
      dsimp only
      go_wp2_with (at_builtin; refine app_val w.heap.size rfl _ _ 35 22 (.slice none 0 0) 24 rfl Try.underlying35 (by kernel_rfl) (by decide) rfl A1 c1 vs (.slice A2 pk.length c2) rfl rfl ov1 rfl bw1.size (by omega) ?_)
      intro B1 d1 w3 o3 hg3 hat
      have zS := ownS_app1 rv1 ov1 o2 (fun k hk => (ov.lt k hk).2) bw.size o3 hg3 (by simpa using hat) b2.size
      have bw3 : Below w.heap.size w w3 := (bw1.alloc bw1.size _).grown hg3 (by have := bw1.size; simp; omega) (fun k hk => own_base ov1 k hk)
      rw [← HT.out] at zS
      clear hg3 hat o3 o2 ov1 rv1 ov rv b2 bw bw1
      go_wp2_with fail
      go_roundg (gk - 1)
      case measure => omega
      case rel => exact ⟨k + 1, B1, d1, by rw [HU.out]; simp, by rw [HT.out, List.length_append, HVL.out]; simp, by omega, by omega, zS, bw3⟩
    · obtain rfl : k = (scanR b).length := by omega
      have hne := hsp.2.2 rfl
      rw [List.take_length] at *
      clear hsp hlt hk hg hA1
      generalize oneR (b.drop (used (scanR b))) = r at *
      obtain ⟨r1, r2, r3⟩ := r
      dsimp only at *
      generalize (b.drop (used (scanR b))).length = nd at *
      have hne1 : (r3 != 0) = true := by simpa using hne
      clear hne
      go_wp2_with fail
      refine RO.mono ?_
      rintro e w1 ⟨A2, c2, rfl, o2, b2⟩
      have ho1 := ho.below b2
      have bw1 := below_trans bw b2
      dsimp only
      go_wp2_with fail
      go_ret2
      exact ⟨A1, c1, rfl, ho1, bw1⟩
/-- What All answers. -/
def allR (b : List Int) : List (List Int) × Int := if used (scanR b) = b.length then (scanR b, 0) else ([], 4)
theorem All_calls (A : Option Addr) (c : Nat) (b : List Int) (w : World) (h : SlI w .u8 A c b) (hb : Bytes b) (hl : b.length ≤ 1000000) :
    Calls Try.prog 20 #[.slice A b.length c] w fun e w' => ∃ A' c', e = .returned (.tuple #[.slice A' (allR b).1.length c', .int .i64 (allR b).2]) ∧ OwnS w' w.heap.size 22 .u8 A' c' (allR b).1 ∧ Below w.heap.size w w' := by
  have S := fun w h => Scan_calls A c b w h hb hl
  have hu : used (scanR b) ≤ b.length := by have := (scanR_spec hb (Nat.le_refl (scanR b).length)).1; rwa [List.take_length] at this
  by_cases he : used (scanR b) = b.length
  · have H := Lib.hid (show allR b = (scanR b, 0) by unfold allR; rw [if_pos he])
    have i1 : ((used (scanR b) : Int) != (b.length : Int)) = false := by simp [he]
    have he' := Lib.hid he
    clear he
    generalize used (scanR b) = u at *
    go_enter Try.func20, Try.ntmps20
    go_wp2_with fail
    refine (S _ h).mono ?_
    rintro e w1 ⟨A1, c1, rfl, o1, b1⟩
    go_wp2_with fail
    go_ret2
    refine ⟨A1, c1, by rw [H.out]; rfl, ?_, b1⟩
    rw [H.out]; exact o1
  · have H := Lib.hid (show allR b = ([], 4) by unfold allR; rw [if_neg he])
    have i1 : ((used (scanR b) : Int) != (b.length : Int)) = true := by simp; omega
    have he' := Lib.hid he
    clear he
    generalize used (scanR b) = u at *
    go_enter Try.func20, Try.ntmps20
    go_wp2_with fail
    refine (S _ h).mono ?_
    rintro e w1 ⟨A1, c1, rfl, o1, b1⟩
    go_wp2_with fail
    go_ret2
    refine ⟨none, 0, by rw [H.out]; rfl, ?_, b1⟩
    rw [H.out]; exact OwnS.nil _ _ _ _
theorem RAll_calls (A : Option Addr) (c : Nat) (b : List Int) (w : World) (h : SlI w .u8 A c b) (hb : Bytes b) (hl : b.length ≤ 1000000) :
    Calls Try.prog 25 #[.slice A b.length c] w fun e w' => ∃ A' c', e = .returned (.tuple #[.slice A' (allR b).1.length c', .int .i64 (allR b).2]) ∧ OwnS w' w.heap.size 22 .u8 A' c' (allR b).1 ∧ Below w.heap.size w w' := by
  have S := fun w h => RScan_calls A c b w h hb hl
  have hu : used (scanR b) ≤ b.length := by have := (scanR_spec hb (Nat.le_refl (scanR b).length)).1; rwa [List.take_length] at this
  by_cases he : used (scanR b) = b.length
  · have H := Lib.hid (show allR b = (scanR b, 0) by unfold allR; rw [if_pos he])
    have i1 : ((used (scanR b) : Int) != (b.length : Int)) = false := by simp [he]
    have he' := Lib.hid he
    clear he
    generalize used (scanR b) = u at *
    go_enter Try.func25, Try.ntmps25
    go_wp2_with fail
    refine (S _ h).mono ?_
    rintro e w1 ⟨A1, c1, rfl, o1, b1⟩
    go_wp2_with fail
    go_ret2
    refine ⟨A1, c1, by rw [H.out]; rfl, ?_, b1⟩
    rw [H.out]; exact o1
  · have H := Lib.hid (show allR b = ([], 4) by unfold allR; rw [if_neg he])
    have i1 : ((used (scanR b) : Int) != (b.length : Int)) = true := by simp; omega
    have he' := Lib.hid he
    clear he
    generalize used (scanR b) = u at *
    go_enter Try.func25, Try.ntmps25
    go_wp2_with fail
    refine (S _ h).mono ?_
    rintro e w1 ⟨A1, c1, rfl, o1, b1⟩
    go_wp2_with fail
    go_ret2
    refine ⟨none, 0, by rw [H.out]; rfl, ?_, b1⟩
    rw [H.out]; exact OwnS.nil _ _ _ _
end Go.Proofs.Ytipjmglieedimaa
