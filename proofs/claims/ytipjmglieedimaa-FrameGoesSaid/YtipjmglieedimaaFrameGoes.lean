import Derived.Test.YtipjmglieedimaaFrameJoin
import Derived.Test.YtipjmglieedimaaFrameCalls
namespace Go.Proofs.Ytipjmglieedimaa
set_option linter.unusedVariables false
set_option linter.unusedSimpArgs false
open Go.RowKit
set_option maxHeartbeats 2000000 in
set_option maxRecDepth 100000 in
theorem goes_core (A B : Option Addr) (c d : Nat) (p b : List Int) (w : World) (hp : SlI w .u8 A c p) (bp : Bytes p) (hb : SlI w .u8 B d b) (bb : Bytes b) (l1 : p.length ≤ 400) (l2 : b.length ≤ 400) :
    Calls Try.prog 4 #[.slice A p.length c, .slice B b.length d] w fun e w' => e = .returned (.bool true) ∧ Below w.heap.size w w' := by
  have i1 : ¬ (p.length : Int) > 400 := by omega
  have i2 : ¬ (b.length : Int) > 400 := by omega
  have FB := frm_bytes bp
  have FL := frm_len p
  have hO := Lib.hid (oneR_frm b (p := p) (by omega))
  obtain ⟨F, hF⟩ : ∃ F, Hid (frm p = F) := ⟨_, Lib.hid rfl⟩
  rw [hF.out] at FB FL hO
  have f1 : F.length ≤ 408 := by omega
  have i3 : ((8 : Int) + (p.length : Int) != (F.length : Int)) = false := by rw [bne_eq_false_iff_eq]; omega
  have SC := fun w h => Scan_calls B d b w h bb (by omega)
  obtain ⟨g1, g2, g3⟩ := frs_scanR bb
  have JC := fun A c w h => joined_calls A c (scanR b) w h g2 (by have := used_len (scanR b); omega) (fun j hj => by have := scanR_part bb hj; omega)
  rw [g1] at JC
  have i4 : (used (scanR b) : Int) ≤ (d : Int) := by have := hb.le; omega
  have i5 : (used (scanR b) : Int) ≤ (b.length : Int) := by omega
  have hbT := hb.take (used (scanR b)) d (by have := hb.le; omega) (Nat.le_refl _)
  have LT : Hid ((b.take (used (scanR b))).length = used (scanR b)) := by show _ = _; rw [List.length_take]; omega
  have BA : Bytes (F ++ b) := bytes_app FB bb
  have AL : (F ++ b).length ≤ 140737488355328 := by rw [List.length_append]; omega
  clear FL g1 g2
  generalize b.take (used (scanR b)) = bT at *
  generalize scanR b = L at *
  generalize used L = ul at *
  go_enter Try.func4, Try.ntmps4
  go_wp2_with fail
  refine (lives_calls _).mono ?_
  rintro e w1 ⟨rfl, b1⟩
  have bt1 := b1
  replace hp := hp.below b1
  replace hb := hb.below b1
  replace hbT := hbT.below b1
  clear b1
  go_wp2_with fail
  refine (Bytes_at A c p.length p _ hp bp (by omega) (Lib.hid rfl) F hF).mono ?_
  rintro e w2 ⟨A1, c1, rfl, o1, b2⟩
  have bt2 := below_trans bt1 b2
  replace hp := hp.below b2
  replace hb := hb.below b2
  replace hbT := hbT.below b2
  have s1 := OwnI.sl o1
  clear b2 bt1
  go_wp2_with fail
  refine (Own_at A1 c1 F.length F _ s1 (by omega) (Lib.hid rfl)).mono ?_
  rintro e w3 ⟨A2, c2, rfl, o2, b3⟩
  go_wp2_with (at_builtin; refine app_row_is w2.heap.size rfl _ _ 22 5 .u8 1 rfl Try.underlying22 (by kernel_rfl) (by decide) _ _ F b (F ++ b) (Lib.hid rfl) B d rfl rfl o2 (hb.below b3).rd b3.size (by omega) ?_)
  intro B3 d3 w4 o3 hg4 _
  have b4 := below_grown b3 hg4 o2 (Nat.le_refl _)
  have bt4 := below_trans bt2 b4
  replace hp := hp.below b4
  replace hb := hb.below b4
  replace hbT := hbT.below b4
  replace s1 := s1.below b4
  have s3 := OwnI.sl o3
  clear b3 hg4 o2 b4 bt2
  go_wp2_with fail
  refine (One_at B3 d3 (F.length + b.length) (F ++ b) _ s3 BA AL (Lib.hid List.length_append) p _ _ hO).mono ?_
  rintro e w5 ⟨A5, c5, rfl, o5, b5⟩
  have bt5 := below_trans bt4 b5
  replace hp := hp.below b5
  replace hb := hb.below b5
  replace hbT := hbT.below b5
  replace s1 := s1.below b5
  replace s3 := s3.below b5
  have s5 := OwnI.sl o5
  clear b5 bt4
  go_wp2_with fail
  refine (Same_at A5 A c5 c p.length p.length p p _ s5 hp (Lib.hid rfl) (Lib.hid rfl) true (Lib.hid (by simp))).mono ?_
  rintro e w6 ⟨rfl, b6⟩
  have bt6 := below_trans bt5 b6
  replace hp := hp.below b6
  replace hb := hb.below b6
  replace hbT := hbT.below b6
  replace s1 := s1.below b6
  replace s3 := s3.below b6
  replace s5 := s5.below b6
  clear b6 bt5
  go_wp2_with fail
  refine (SC _ hb).mono ?_
  rintro e w7 ⟨A7, c7, rfl, o7, b7⟩
  have bt7 := below_trans bt6 b7
  replace hp := hp.below b7
  replace hb := hb.below b7
  replace hbT := hbT.below b7
  replace s1 := s1.below b7
  replace s3 := s3.below b7
  replace s5 := s5.below b7
  have s7 := OwnS.sl o7
  clear b7 bt6
  go_wp2_with fail
  refine (JC A7 c7 _ s7).mono ?_
  rintro e w8 ⟨A8, c8, A9, c9, rfl, o8, o9, b8⟩
  have bt8 := below_trans bt7 b8
  replace hp := hp.below b8
  replace hb := hb.below b8
  replace hbT := hbT.below b8
  replace s1 := s1.below b8
  replace s3 := s3.below b8
  replace s5 := s5.below b8
  replace s7 := s7.below b8
  have s8 := OwnI.sl o8
  clear b8 bt7
  go_wp2_with fail
  refine (Same_at A8 B c8 d bT.length ul bT bT _ s8 hbT (Lib.hid rfl) LT true (Lib.hid (by simp))).mono ?_
  rintro e w9 ⟨rfl, b9⟩
  have bt9 := below_trans bt8 b9
  replace hp := hp.below b9
  replace hb := hb.below b9
  replace hbT := hbT.below b9
  replace s1 := s1.below b9
  replace s3 := s3.below b9
  replace s5 := s5.below b9
  replace s7 := s7.below b9
  replace s8 := s8.below b9
  clear b9 bt8
  go_wp2_with fail
  go_ret
  exact ⟨by first | rfl | simp, bt9⟩
set_option maxRecDepth 100000 in
theorem FrameGoes_row (A : Option Addr) (c : Nat) (p : List Int) (B : Option Addr) (d : Nat) (b : List Int) (w : World) (hp : SlI w .u8 A c p) (fp : ∀ n ∈ p, (Lit.int .u8 n).wf = true) (_sp : p.length * 1 ≤ 140737488351232) (hb : SlI w .u8 B d b) (fb : ∀ n ∈ b, (Lit.int .u8 n).wf = true) (_sb : b.length * 1 ≤ 140737488351232) :
    Calls Try.prog 4 #[.slice A p.length c, .slice B b.length d] w fun e w' => e = .returned (.bool true) ∧ Below w.heap.size w w' := by
  have hm := hp.len
  have hm2 := hb.len
  by_cases h1 : p.length > 400
  · have i1 : (p.length : Int) > 400 := by omega
    go_enter Try.func4, Try.ntmps4
    go_wp2_with fail
    refine (lives_calls _).mono ?_
    rintro e w1 ⟨rfl, b1⟩
    go_wp2_with fail
    go_ret
    exact ⟨rfl, b1⟩
  · by_cases h2 : b.length > 400
    · have i1 : ¬ (p.length : Int) > 400 := by omega
      have i2 : (b.length : Int) > 400 := by omega
      go_enter Try.func4, Try.ntmps4
      go_wp2_with fail
      refine (lives_calls _).mono ?_
      rintro e w1 ⟨rfl, b1⟩
      go_wp2_with fail
      go_ret
      exact ⟨rfl, b1⟩
    · exact goes_core A B c d p b w hp (fun x hx => bdU8 (fp x hx)) hb (fun x hx => bdU8 (fb x hx)) (by omega) (by omega)
end Go.Proofs.Ytipjmglieedimaa
