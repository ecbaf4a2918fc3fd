import Derived.Test.YtipjmglieedimaaFrameJoin
import Derived.Test.YtipjmglieedimaaFrameCalls
import Derived.Test.YtipjmglieedimaaSizedS
namespace Go.Proofs.Ytipjmglieedimaa
set_option linter.unusedVariables false
set_option linter.unusedSimpArgs false
open Go.RowKit
theorem SlS.take {w : World} {k : IntKind} {A : Option Addr} {c : Nat} {xss : List (List Int)} (h : SlS w k A c xss) (m c' : Nat) (hm : m ≤ c') (hc : c' ≤ c) : SlS w k A c' (xss.take m) := by
  obtain ⟨⟨vs, h1, h2⟩, h3, h4⟩ := h
  refine ⟨⟨vs.take m, h1.take m, by simp [h2.1], fun j hj => ?_⟩, by rw [List.length_take]; omega, by omega⟩
  rw [List.length_take] at hj
  obtain ⟨B, d, e1, e2, e3⟩ := h2.2 j (by omega)
  have : (xss.take m).getD j [] = xss.getD j [] := by simp [List.getD_eq_getElem?_getD, List.getElem?_take, show j < m by omega]
  rw [this, List.getElem?_take, if_pos (by omega)]
  exact ⟨B, d, e1, e2, e3⟩
theorem SlS.cast {w : World} {k : IntKind} {A : Option Addr} {c : Nat} {xss yss : List (List Int)} (h : SlS w k A c xss) (e : Hid (xss = yss)) : SlS w k A c yss := e.out ▸ h
theorem okP_of {l : List (List Int)} (h : ∀ xs ∈ l, ∀ n ∈ xs, (Lit.int .u8 n).wf = true) (h2 : ∀ j, j < l.length → ((l.getD j []).length : Int) ≤ 400) : okP l := fun p hp => by
  obtain ⟨j, hj, rfl⟩ := List.mem_iff_getElem.1 hp
  have := h2 j hj
  rw [List.getD_eq_getElem?_getD, List.getElem?_eq_getElem hj] at this
  exact ⟨fun x hx => bdU8 (h _ hp x hx), by simp at this; omega⟩
theorem allR_frs {l : List (List Int)} (h : okP l) : allR (frs l) = (l, 0) := by
  have h1 := scanR_frs h (r := []) (fun x hx => by simp at hx)
  rw [List.append_nil, scanR_nil, List.append_nil] at h1
  unfold allR
  rw [h1, if_pos (frs_len l).symm]
set_option maxHeartbeats 1000000 in
set_option maxRecDepth 100000 in
theorem back_core (A : Option Addr) (c : Nat) (l : List (List Int)) (n : Int) (w : World) (hl : SlS w .u8 A c l) (hb : okP l) (hlt : lightB l 60 400 = true) :
    Calls Try.prog 8 #[.slice A l.length c, .int .i64 n] w fun e w' => e = .returned (.bool true) ∧ Below w.heap.size w w' := by
  obtain ⟨t1, t2⟩ := lightB_true hlt
  have l60 : l.length ≤ 60 := by omega
  have l400 : ∀ j, j < l.length → (l.getD j []).length ≤ 400 := fun j hj => by have := t2 j hj; omega
  have hul : used l ≤ 24480 := by have := used_le l400; have : (8 + 400) * l.length ≤ (8 + 400) * 60 := Nat.mul_le_mul_left _ l60; omega
  have hFl := frs_len l
  have FB := frs_bytes hb
  have JC := fun A c w h => joined_calls A c l w h hb (by omega) (fun j hj => by have := l400 j hj; omega)
  have AF := fun A c w h => All_calls A c (frs l) w h FB (by omega)
  rw [allR_frs hb] at AF
  dsimp only at AF
  have CUT := Lib.hid (fun k at_ hk h1 h2 h3 => scanR_cut hb (k := k) (at_ := at_) hk h1 h2 h3)
  have SCf := fun A c (at_ : Nat) w (h : SlI w .u8 A c ((frs l).take at_)) => Scan_calls A c ((frs l).take at_) w h (FB.take at_) (by rw [List.length_take]; omega)
  have ACf := fun A c (at_ : Nat) w (h : SlI w .u8 A c ((frs l).take at_)) => All_calls A c ((frs l).take at_) w h (FB.take at_) (by rw [List.length_take]; omega)
  have LTf : ∀ at_, at_ ≤ (frs l).length → ((frs l).take at_).length = at_ := fun at_ h => by rw [List.length_take]; omega
  have HLT := Lib.hid LTf
  have HFL := Lib.hid hFl
  obtain ⟨F, hF⟩ : ∃ F, Hid (frs l = F) := ⟨_, Lib.hid rfl⟩
  rw [hF.out] at JC AF CUT SCf ACf HLT HFL FB
  have F0 : F.length ≤ 24480 := by have := HFL.out; omega
  have HUL := Lib.hid hul
  obtain ⟨at_, hat⟩ : ∃ a : Nat, Hid (n % ((F.length : Int) + 1) = (a : Int)) := ⟨(n % ((F.length : Int) + 1)).toNat, by show _ = _; rw [Int.toNat_of_nonneg (Int.emod_nonneg _ (by omega))]⟩
  have hat1 : at_ ≤ F.length := by have := hat.out; have := Int.emod_lt_of_pos n (show 0 < (F.length : Int) + 1 by omega); omega
  have HSC := Lib.hid SCf
  have HAC := Lib.hid ACf
  have EL := Lib.hid (endsL_len l)
  have EG := Lib.hid (fun k (h : k < l.length) => endsL_get h)
  have HB := Lib.hid hb
  clear t1 t2 hFl LTf SCf ACf hul l400 hb
  generalize endsL l = en at *
  go_enter Try.func8, Try.ntmps8
  go_wp2_with fail
  refine (lives_calls _).mono ?_
  rintro e w1 ⟨rfl, b1⟩
  have bt1 := b1
  replace hl := hl.below b1
  clear b1
  go_wp2_with fail
  refine (Light_byte_calls A c l 60 400 _ hl).mono ?_
  rintro e w' ⟨rfl, rfl⟩
  rw [hlt]
  go_wp2_with fail
  refine (JC A c _ hl).mono ?_
  rintro e w3 ⟨A1, c1, A2, c2, rfl, o1, o2, b3⟩
  have bt3 := below_trans bt1 b3
  replace hl := hl.below b3
  have s1 := OwnI.sl o1
  have s2 := OwnI.sl o2
  clear b3 bt1
  go_wp2_with fail
  refine (AF A1 c1 _ s1).mono ?_
  rintro e w4 ⟨A3, c3, rfl, o3, b4⟩
  have bt4 := below_trans bt3 b4
  replace hl := hl.below b4
  replace s1 := s1.below b4
  replace s2 := s2.below b4
  have s3 := OwnS.sl o3
  clear b4 bt3
  go_wp2_with fail
  refine (Lists_at A3 A c3 c l.length l.length l l _ s3 hl (Lib.hid rfl) (Lib.hid rfl) true (Lib.hid (by simp))).mono ?_
  rintro e w5 ⟨rfl, b5⟩
  have bt5 := below_trans bt4 b5
  replace hl := hl.below b5
  replace s1 := s1.below b5
  replace s2 := s2.below b5
  replace s3 := s3.below b5
  clear b5 bt4
  go_wp2_with fail
  refine (hat.out ▸ Pick_calls n ((F.length : Int) + 1) _ (by omega) (by omega) : Calls Try.prog 13 #[.int .i64 n, .int .i64 ((F.length : Int) + 1)] _ fun e w' => e = .returned (.int .i64 (at_ : Int)) ∧ _ = w').mono ?_
  rintro e w' ⟨rfl, rfl⟩
  go_wp2_with fail
  go_loopg [10, 11, 12] (l.length + 1) (fun gk a b i w' => ∃ k : Nat, a = .int .i64 (k : Int) ∧ b = .int .i64 (used (l.take k) : Int) ∧ i = .int .i64 (k : Int) ∧ k ≤ l.length ∧ l.length < k + gk ∧ used (l.take k) ≤ at_ ∧ SlI w' .i64 A2 c2 en ∧ SlI w' .u8 A1 c1 F ∧ SlS w' .u8 A c l ∧ Below w.heap.size w w')
  case atStart => exact ⟨0, rfl, rfl, rfl, by omega, by omega, by simp [used], s2, s1, hl, bt5⟩
  case round =>
    clear s2 s1 hl s3 bt5
    obtain ⟨k, rfl, rfl, rfl, hk, hg, hu, s2, s1, hl, bt9⟩ := hrel
    by_cases hlk : k < l.length ∧ used (l.take (k + 1)) ≤ at_
    · have hlk1 := hlk.1
      have j1 : (k : Int) < (en.length : Int) := by have := EL.out; omega
      obtain ⟨ad, rfl, hc⟩ := s2.get k (by have := EL.out; omega)
      rw [EG.out k hlk1] at hc
      have hu2 := hlk.2
      have j2 : (used (l.take (k + 1)) : Int) ≤ (at_ : Int) := by omega
      clear hlk
      obtain ⟨u2, hu2e⟩ : ∃ u, Hid (used (l.take (k + 1)) = u) := ⟨_, Lib.hid rfl⟩
      rw [hu2e.out] at hc hu2 j2
      go_wp2_with fail
      go_quiet (fail)
      go_wp2_with fail
      go_roundg (gk - 1)
      case measure => omega
      case rel => exact ⟨k + 1, by simp, by rw [hu2e.out], by simp, by omega, by omega, by rw [hu2e.out]; exact hu2, s2.below (below_drewN (Below.refl _ _) _), s1.below (below_drewN (Below.refl _ _) _), hl.below (below_drewN (Below.refl _ _) _), below_trans bt9 (below_drewN (Below.refl _ _) _)⟩
    · have hcut := CUT.out k at_ hk hu (fun hh => by omega) (by have := HFL.out; omega)
      have LT : Hid ((F.take at_).length = at_) := HLT.out at_ hat1
      have SC0 := fun A c w h => HSC.out A c at_ w h
      have AC0 := fun A c w h => HAC.out A c at_ w h
      rw [hcut] at SC0
      rw [LT.out] at SC0 AC0
      have hal : allR (F.take at_) = if used (l.take k) = at_ then (l.take k, 0) else ([], 4) := by unfold allR; rw [hcut, LT.out]
      have HTL : Hid ((l.take k).length = k) := by show _ = _; rw [List.length_take]; omega
      have hstk := hl.take k c (by have := hl.le; omega) (Nat.le_refl _)
      have kle : (k : Int) ≤ (c : Int) := by have := hl.le; omega
      have ale : (at_ : Int) ≤ (c1 : Int) := by have := s1.le; omega
      have ends : (¬ (k : Int) < (en.length : Int)) ∨ (k < l.length ∧ at_ < used (l.take (k + 1))) := by have := EL.out; omega
      have ucases : (used (l.take k) = at_ ∧ ((used (l.take k) : Int) == (at_ : Int)) = true) ∨ (used (l.take k) ≠ at_ ∧ ((used (l.take k) : Int) == (at_ : Int)) = false) := by
        by_cases hh : used (l.take k) = at_
        · exact .inl ⟨hh, by simp [hh]⟩
        · exact .inr ⟨hh, by rw [beq_eq_false_iff_ne]; omega⟩
      have HE := Lib.hid ends
      have HAL := Lib.hid hal
      clear hcut hal ends hlk
      rcases ucases with ⟨hue, heb⟩ | ⟨hue, heb⟩
      · rw [HAL.out, if_pos hue] at AC0
        dsimp only at AC0
        clear hue
        have HEB := Lib.hid heb
        clear heb
        rcases HE.out with j1 | ⟨hk2, hk3⟩
        · generalize l.take k = tk at *
          have heb := HEB.out
          generalize used tk = uk at *
          go_wp2_with fail
          refine (SC0 A1 c1 _ (s1.take at_ c1 (by have := s1.le; omega) (Nat.le_refl _))).mono ?_
          rintro e w10 ⟨A5, c5, rfl, o5, b10⟩
          have bt10 := below_trans bt9 b10
          replace hstk := hstk.below b10
          replace s1 := s1.below b10
          have s5 := OwnS.sl o5
          clear b10 bt9
          go_wp2_with fail
          refine (AC0 A1 c1 _ (s1.take at_ c1 (by have := s1.le; omega) (Nat.le_refl _))).mono ?_
          rintro e w11 ⟨A6, c6, rfl, o6, b11⟩
          have bt11 := below_trans bt10 b11
          replace hstk := hstk.below b11
          replace s1 := s1.below b11
          replace s5 := s5.below b11
          clear b11 bt10
          go_wp2_with fail
          refine (Lists_at A5 A c5 c tk.length k tk tk _ s5 hstk (Lib.hid rfl) HTL true (Lib.hid (by simp))).mono ?_
          rintro e w12 ⟨rfl, b12⟩
          have bt12 := below_trans bt11 b12
          replace hstk := hstk.below b12
          replace s1 := s1.below b12
          replace s5 := s5.below b12
          clear b12 bt11
          go_wp2_with fail
          go_ret
          exact ⟨by first | rfl | simp, bt12⟩
        · have j1 : (k : Int) < (en.length : Int) := by have := EL.out; omega
          obtain ⟨ad, rfl, hc⟩ := s2.get k (by have := EL.out; omega)
          rw [EG.out k hk2] at hc
          have j2 : ¬ (used (l.take (k + 1)) : Int) ≤ (at_ : Int) := by omega
          generalize used (l.take (k + 1)) = u2 at *
          generalize l.take k = tk at *
          have heb := HEB.out
          generalize used tk = uk at *
          go_wp2_with fail
          refine (SC0 A1 c1 _ (s1.take at_ c1 (by have := s1.le; omega) (Nat.le_refl _))).mono ?_
          rintro e w10 ⟨A5, c5, rfl, o5, b10⟩
          have bt10 := below_trans bt9 b10
          replace hstk := hstk.below b10
          replace s1 := s1.below b10
          have s5 := OwnS.sl o5
          clear b10 bt9
          go_wp2_with fail
          refine (AC0 A1 c1 _ (s1.take at_ c1 (by have := s1.le; omega) (Nat.le_refl _))).mono ?_
          rintro e w11 ⟨A6, c6, rfl, o6, b11⟩
          have bt11 := below_trans bt10 b11
          replace hstk := hstk.below b11
          replace s1 := s1.below b11
          replace s5 := s5.below b11
          clear b11 bt10
          go_wp2_with fail
          refine (Lists_at A5 A c5 c tk.length k tk tk _ s5 hstk (Lib.hid rfl) HTL true (Lib.hid (by simp))).mono ?_
          rintro e w12 ⟨rfl, b12⟩
          have bt12 := below_trans bt11 b12
          replace hstk := hstk.below b12
          replace s1 := s1.below b12
          replace s5 := s5.below b12
          clear b12 bt11
          go_wp2_with fail
          go_ret
          exact ⟨by first | rfl | simp, bt12⟩
      · rw [HAL.out, if_neg hue] at AC0
        dsimp only at AC0
        clear hue
        have HEB := Lib.hid heb
        clear heb
        rcases HE.out with j1 | ⟨hk2, hk3⟩
        · generalize l.take k = tk at *
          have heb := HEB.out
          generalize used tk = uk at *
          go_wp2_with fail
          refine (SC0 A1 c1 _ (s1.take at_ c1 (by have := s1.le; omega) (Nat.le_refl _))).mono ?_
          rintro e w10 ⟨A5, c5, rfl, o5, b10⟩
          have bt10 := below_trans bt9 b10
          replace hstk := hstk.below b10
          replace s1 := s1.below b10
          have s5 := OwnS.sl o5
          clear b10 bt9
          go_wp2_with fail
          refine (AC0 A1 c1 _ (s1.take at_ c1 (by have := s1.le; omega) (Nat.le_refl _))).mono ?_
          rintro e w11 ⟨A6, c6, rfl, o6, b11⟩
          have bt11 := below_trans bt10 b11
          replace hstk := hstk.below b11
          replace s1 := s1.below b11
          replace s5 := s5.below b11
          clear b11 bt10
          go_wp2_with fail
          refine (Lists_at A5 A c5 c tk.length k tk tk _ s5 hstk (Lib.hid rfl) HTL true (Lib.hid (by simp))).mono ?_
          rintro e w12 ⟨rfl, b12⟩
          have bt12 := below_trans bt11 b12
          replace hstk := hstk.below b12
          replace s1 := s1.below b12
          replace s5 := s5.below b12
          clear b12 bt11
          go_wp2_with fail
          go_ret
          exact ⟨by first | rfl | simp, bt12⟩
        · have j1 : (k : Int) < (en.length : Int) := by have := EL.out; omega
          obtain ⟨ad, rfl, hc⟩ := s2.get k (by have := EL.out; omega)
          rw [EG.out k hk2] at hc
          have j2 : ¬ (used (l.take (k + 1)) : Int) ≤ (at_ : Int) := by omega
          generalize used (l.take (k + 1)) = u2 at *
          generalize l.take k = tk at *
          have heb := HEB.out
          generalize used tk = uk at *
          go_wp2_with fail
          refine (SC0 A1 c1 _ (s1.take at_ c1 (by have := s1.le; omega) (Nat.le_refl _))).mono ?_
          rintro e w10 ⟨A5, c5, rfl, o5, b10⟩
          have bt10 := below_trans bt9 b10
          replace hstk := hstk.below b10
          replace s1 := s1.below b10
          have s5 := OwnS.sl o5
          clear b10 bt9
          go_wp2_with fail
          refine (AC0 A1 c1 _ (s1.take at_ c1 (by have := s1.le; omega) (Nat.le_refl _))).mono ?_
          rintro e w11 ⟨A6, c6, rfl, o6, b11⟩
          have bt11 := below_trans bt10 b11
          replace hstk := hstk.below b11
          replace s1 := s1.below b11
          replace s5 := s5.below b11
          clear b11 bt10
          go_wp2_with fail
          refine (Lists_at A5 A c5 c tk.length k tk tk _ s5 hstk (Lib.hid rfl) HTL true (Lib.hid (by simp))).mono ?_
          rintro e w12 ⟨rfl, b12⟩
          have bt12 := below_trans bt11 b12
          replace hstk := hstk.below b12
          replace s1 := s1.below b12
          replace s5 := s5.below b12
          clear b12 bt11
          go_wp2_with fail
          go_ret
          exact ⟨by first | rfl | simp, bt12⟩
set_option maxRecDepth 100000 in
theorem FrameBack_row (A : Option Addr) (c : Nat) (l : List (List Int)) (n : Int) (w : World) (hl : SlS w .u8 A c l ∧ ∀ xs ∈ l, ∀ n ∈ xs, (Lit.int .u8 n).wf = true) (_n : (Lit.int .i64 n).wf = true) :
    Calls Try.prog 8 #[.slice A l.length c, .int .i64 n] w fun e w' => e = .returned (.bool true) ∧ Below w.heap.size w w' := by
  have hm := hl.1.len
  cases hlt : lightB l 60 400 with
  | false =>
    have LG := fun w h => Light_byte_calls A c l 60 400 w h
    rw [hlt] at LG
    have h1 := hl.1
    clear hlt hl
    go_enter Try.func8, Try.ntmps8
    go_wp2_with fail
    refine (lives_calls _).mono ?_
    rintro e w1 ⟨rfl, b1⟩
    go_wp2_with fail
    refine (LG _ (h1.below b1)).mono ?_
    rintro e w' ⟨rfl, rfl⟩
    go_wp2_with fail
    go_ret
    exact ⟨rfl, b1⟩
  | true => exact back_core A c l n w hl.1 (okP_of hl.2 (lightB_true hlt).2) hlt
end Go.Proofs.Ytipjmglieedimaa
