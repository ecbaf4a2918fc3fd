import Derived.Test.YtipjmglieedimaaFrameJoin
import Derived.Test.YtipjmglieedimaaFrameCalls
import Derived.Test.YtipjmglieedimaaFrameBack
import Derived.Test.YtipjmglieedimaaSizedS
import Derived.Test.YtipjmglieedimaaMemV2
namespace Go.Proofs.Ytipjmglieedimaa
set_option linter.unusedVariables false
set_option linter.unusedSimpArgs false
open Go.RowKit
set_option maxHeartbeats 400000 in
set_option maxRecDepth 100000 in
theorem fjoins_core (A B : Option Addr) (c d : Nat) (l : List (List Int)) (b : List Int) (w : World) (hl : SlS w .u8 A c l) (hb : SlI w .u8 B d b) (ho : okP l) (bb : Bytes b) (hlt : lightB l 60 400 = true) (lb : b.length ≤ 400) :
    Calls Try.prog 5 #[.slice A l.length c, .slice B b.length d] w fun e w' => e = .returned (.bool true) ∧ Below w.heap.size w w' := by
  obtain ⟨t1, t2⟩ := lightB_true hlt
  have l60 : l.length ≤ 60 := by omega
  have l400' : ∀ j, j < l.length → (l.getD j []).length ≤ 400 := fun j hj => by have := t2 j hj; omega
  have l400 : ∀ j, j < l.length → (l.getD j []).length ≤ 1000000 := fun j hj => by have := l400' j hj; omega
  have hul : used l ≤ 24480 := by have := used_le l400'; have : (8 + 400) * l.length ≤ (8 + 400) * 60 := Nat.mul_le_mul_left _ l60; omega
  have i2 : ¬ (b.length : Int) > 400 := by omega
  have hFl := frs_len l
  have FB := frs_bytes ho
  have JC := fun A c w h => joined_calls A c l w h ho (by omega) (fun j hj => by have := l400' j hj; omega)
  have BA : Bytes (frs l ++ b) := bytes_app FB bb
  have SF0 := fun A c w h => Scan_calls A c (frs l ++ b) w h BA (by rw [List.length_append]; omega)
  rw [scanR_frs ho bb, used_app, List.length_append, List.length_append] at SF0
  have SF := SF0
  have SC := fun w h => Scan_calls B d b w h bb (by omega)
  have hLl : (scanR b).length ≤ 400 := by have := used_len (scanR b); have := (frs_scanR bb).2.2; omega
  have F0 : (frs l).length ≤ 24480 := by omega
  have u0 : used (scanR b) ≤ 400 := by have := (frs_scanR bb).2.2; omega
  have i3 : (((used l + used (scanR b) : Nat) : Int) == ((frs l).length : Int) + (used (scanR b) : Int)) = true := by rw [beq_iff_eq]; push_cast; omega
  clear SF0 t1 t2 hFl l400' hul
  generalize frs l = F at *
  generalize scanR b = L at *
  generalize used L = uL at *
  generalize used l + uL = un at *
  have HLL : Hid ((l ++ L).length = l.length + L.length) := List.length_append
  go_enter Try.func5, Try.ntmps5
  go_wp2_with fail
  refine (lives_calls _).mono ?_
  rintro e w1 ⟨rfl, b1⟩
  have bt1 := b1
  replace hl := hl.below b1
  replace hb := hb.below b1
  clear b1
  go_wp2_with fail
  refine (Light_byte_calls A c l 60 400 _ hl).mono ?_
  rintro e w' ⟨rfl, rfl⟩
  rw [hlt]
  go_wp2_with fail
  refine (JC A c _ hl).mono ?_
  rintro e w2 ⟨A1, c1, A2, c2, rfl, o1, o2, b2⟩
  have bt2 := below_trans bt1 b2
  replace hl := hl.below b2
  replace hb := hb.below b2
  have s1 := OwnI.sl o1
  clear b2 bt1
  go_wp2_with fail
  refine (Own_at A1 c1 F.length F _ s1 (by omega) (Lib.hid rfl)).mono ?_
  rintro e w3 ⟨A3, c3, rfl, o3, b3⟩
  go_wp2_with (at_builtin; refine app_row_is w2.heap.size rfl _ _ 22 5 .u8 1 rfl Try.underlying22 (by kernel_rfl) (by decide) _ _ F b (F ++ b) (Lib.hid rfl) B d rfl rfl o3 (hb.below b3).rd b3.size (by omega) ?_)
  intro B4 d4 w4 o4 hg4 _
  have b4 := below_grown b3 hg4 o3 (Nat.le_refl _)
  have bt4 := below_trans bt2 b4
  replace hl := hl.below b4
  replace hb := hb.below b4
  replace s1 := s1.below b4
  have s4 := OwnI.sl o4
  clear b3 hg4 o3 b4 bt2
  go_wp2_with fail
  refine (SF B4 d4 _ s4).mono ?_
  rintro e w5 ⟨A5, c5, rfl, o5, b5⟩
  have bt5 := below_trans bt4 b5
  replace hl := hl.below b5
  replace hb := hb.below b5
  replace s1 := s1.below b5
  replace s4 := s4.below b5
  have s5 := OwnS.sl o5
  clear b5 bt4
  go_wp2_with fail
  refine (SC _ hb).mono ?_
  rintro e w6 ⟨A6, c6, rfl, o6, b6⟩
  have bt6 := below_trans bt5 b6
  replace hl := hl.below b6
  replace hb := hb.below b6
  replace s1 := s1.below b6
  replace s4 := s4.below b6
  replace s5 := s5.below b6
  clear b6 bt5
  obtain ⟨us, ou, ru0⟩ := o6
  have ru := ru0.weaken (ok' := fun j => j < w6.heap.size) fun _ h => h.2.1
  have rdu := OwnV.rd ou
  have HUS := Lib.hid ru0.1
  clear ou ru0
  go_wp2_with fail
  refine (OwnLists_byte_calls A c l _ hl (by omega) l400).mono ?_
  rintro e w7 ⟨A7, c7, rfl, o7, b7⟩
  obtain ⟨vs, ov, rv⟩ := o7
  have HVS := Lib.hid rv.1
  have ru7 := ru.below b7
  go_wp2_with (at_builtin; refine app_valsR w6.heap.size (by rfl) _ _ 35 22 (.slice none 0 0) 24 rfl Try.underlying35 (by kernel_rfl) (by decide) rfl A7 c7 l.length L.length vs us A6 c6 rfl rfl HVS.out HUS.out ov (rdu.below b7) ru7.oneCell b7.size (by rw [HVS.out, HUS.out]; omega) ?_)
  intro B8 d8 w8 o8 hg8 _
  have sl8 := ownS_appR ov rv ru7 (fun _ h => h) o8 hg8
  have b8 := b7.grown hg8 b7.size (fun j hj => own_base ov j hj)
  have s8 := s5.below b8
  have bt8 := below_trans bt6 b8
  have HM : Hid ((l ++ L).length = vs.length + us.length) := by show _ = _; rw [HLL.out, HVS.out, HUS.out]
  clear hg8 o8 ov rv ru7 ru rdu b7 b8 s5 bt6
  go_wp2_with fail
  refine (Lists_at A5 B8 c5 d8 (l.length + L.length) (vs.length + us.length) (l ++ L) (l ++ L) _ s8 sl8 HLL HM true (Lib.hid (by simp))).mono ?_
  rintro e w9 ⟨rfl, b9⟩
  go_wp2_with fail
  go_ret
  exact ⟨by first | rfl | simp, below_trans bt8 b9⟩
set_option maxRecDepth 100000 in
theorem FrameJoins_row (A : Option Addr) (c : Nat) (l : List (List Int)) (B : Option Addr) (d : Nat) (b : List Int) (w : World) (hl : SlS w .u8 A c l ∧ ∀ xs ∈ l, ∀ n ∈ xs, (Lit.int .u8 n).wf = true) (hb : SlI w .u8 B d b) (fb : ∀ n ∈ b, (Lit.int .u8 n).wf = true) (_sb : b.length * 1 ≤ 140737488351232) :
    Calls Try.prog 5 #[.slice A l.length c, .slice B b.length d] w fun e w' => e = .returned (.bool true) ∧ Below w.heap.size w w' := by
  have hm := hl.1.len
  have hm2 := hb.len
  cases hlt : lightB l 60 400 with
  | false =>
    have LG := fun w h => Light_byte_calls A c l 60 400 w h
    rw [hlt] at LG
    have h1 := hl.1
    clear hlt hl
    go_enter Try.func5, Try.ntmps5
    go_wp2_with fail
    refine (lives_calls _).mono ?_
    rintro e w1 ⟨rfl, b1⟩
    go_wp2_with fail
    refine (LG _ (h1.below b1)).mono ?_
    rintro e w' ⟨rfl, rfl⟩
    go_wp2_with fail
    go_ret
    exact ⟨rfl, b1⟩
  | true =>
    by_cases h2 : b.length > 400
    · have LG := fun w h => Light_byte_calls A c l 60 400 w h
      rw [hlt] at LG
      have h1 := hl.1
      have i2 : (b.length : Int) > 400 := by omega
      clear hlt hl
      go_enter Try.func5, Try.ntmps5
      go_wp2_with fail
      refine (lives_calls _).mono ?_
      rintro e w1 ⟨rfl, b1⟩
      go_wp2_with fail
      refine (LG _ (h1.below b1)).mono ?_
      rintro e w' ⟨rfl, rfl⟩
      go_wp2_with fail
      go_ret
      exact ⟨rfl, b1⟩
    · exact fjoins_core A B c d l b w hl.1 hb (okP_of hl.2 (lightB_true hlt).2) (fun x hx => bdU8 (fb x hx)) hlt (by omega)
end Go.Proofs.Ytipjmglieedimaa
