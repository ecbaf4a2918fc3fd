import Derived.Test.YtipjmglieedimaaFrameRef3
import Derived.Test.YtipjmglieedimaaFrame2
import Derived.Test.YtipjmglieedimaaFrameTurn
namespace Go.Proofs.Ytipjmglieedimaa
set_option linter.unusedVariables false
set_option linter.unusedSimpArgs false
open Go.RowKit
theorem ROne_at (A : Option Addr) (c n : Nat) (b : List Int) (w : World) (h : SlI w .u8 A c b) (hb : Bytes b) (hl : b.length ≤ 140737488355328) (hn : Hid (b.length = n)) (zs : List Int) (m er : Int) (hz : Hid (oneR b = (zs, m, er))) :
    Calls Try.prog 23 #[.slice A n c] w fun e w' => OneAt zs m er w e w' := by
  have := ROne_calls A c b w h hb hl
  rw [hn.out] at this
  unfold OneOwn at this
  rw [hz.out] at this
  exact this
theorem Lists_at (A B : Option Addr) (c d n m : Nat) (xs ys : List (List Int)) (w : World) (h : SlS w .u8 A c xs) (k : SlS w .u8 B d ys) (hn : Hid (xs.length = n)) (hm : Hid (ys.length = m)) (q : Bool) (hq : Hid (decide (xs = ys) = q)) :
    Calls Try.prog 18 #[.slice A n c, .slice B m d] w fun e w' => e = .returned (.bool q) ∧ Below w.heap.size w w' := by
  have := Lists_byte_calls A B c d xs ys w h k
  rw [hn.out, hm.out, hq.out] at this; exact this
set_option maxHeartbeats 2000000 in
set_option maxRecDepth 100000 in
theorem fcalls_core (A B : Option Addr) (c d : Nat) (p b : List Int) (n : Int) (w : World) (hp : SlI w .u8 A c p) (bp : Bytes p) (hb : SlI w .u8 B d b) (bb : Bytes b) (l1 : p.length ≤ 400) (l2 : b.length ≤ 400) :
    Calls Try.prog 7 #[.slice A p.length c, .slice B b.length d, .int .i64 n] w fun e w' => e = .returned (.bool true) ∧ Below w.heap.size w w' := by
  have i1 : ¬ (p.length : Int) > 400 := by omega
  have i2 : ¬ (b.length : Int) > 400 := by omega
  obtain ⟨F, hF⟩ : ∃ F, Hid (frm p = F) := ⟨_, Lib.hid rfl⟩
  obtain ⟨P, n1, e1, hO⟩ : ∃ P n1 e1, Hid (oneR b = (P, n1, e1)) := ⟨_, _, _, Lib.hid rfl⟩
  have SC := fun w h => Scan_calls B d b w h bb (by omega)
  have RS := fun w h => RScan_calls B d b w h bb (by omega)
  have AC := fun w h => All_calls B d b w h bb (by omega)
  have RA := fun w h => RAll_calls B d b w h bb (by omega)
  generalize scanR b = L at *
  obtain ⟨M, e2, hM⟩ : ∃ M e2, Hid (allR b = (M, e2)) := ⟨_, _, Lib.hid rfl⟩
  rw [hM.out] at AC RA
  dsimp only at AC RA
  generalize used L = ul at *
  go_enter Try.func7, Try.ntmps7
  go_wp2_with fail
  refine (lives_calls _).mono ?_
  rintro e w1 ⟨rfl, b1⟩
  have bt1 := b1
  replace hp := hp.below b1
  replace hb := hb.below b1
  clear b1
  go_wp2_with fail
  refine (Own_at A c p.length p _ hp (by omega) (Lib.hid rfl)).mono ?_
  rintro e w2 ⟨A1, c1, rfl, o1, b2⟩
  have bt2 := below_trans bt1 b2
  replace hp := hp.below b2
  replace hb := hb.below b2
  have s1 := OwnI.sl o1
  clear b2 bt1
  go_wp2_with fail
  refine (Bytes_at A1 c1 p.length p _ s1 bp (by omega) (Lib.hid rfl) F hF).mono ?_
  rintro e w3 ⟨A2, c2, rfl, o2, b3⟩
  have bt3 := below_trans bt2 b3
  replace hp := hp.below b3
  replace hb := hb.below b3
  replace s1 := s1.below b3
  have s2 := OwnI.sl o2
  clear b3 bt2
  go_wp2_with fail
  refine (RBytes_at A c p.length p _ hp bp (by omega) (Lib.hid rfl) F hF).mono ?_
  rintro e w4 ⟨A3, c3, rfl, o3, b4⟩
  have bt4 := below_trans bt3 b4
  replace hp := hp.below b4
  replace hb := hb.below b4
  replace s1 := s1.below b4
  replace s2 := s2.below b4
  have s3 := OwnI.sl o3
  clear b4 bt3
  go_wp2_with fail
  refine (Own_at B d b.length b _ hb (by omega) (Lib.hid rfl)).mono ?_
  rintro e w5 ⟨A4, c4, rfl, o4, b5⟩
  have bt5 := below_trans bt4 b5
  replace hp := hp.below b5
  replace hb := hb.below b5
  replace s1 := s1.below b5
  replace s2 := s2.below b5
  replace s3 := s3.below b5
  have s4 := OwnI.sl o4
  clear b5 bt4
  go_wp2_with fail
  refine (One_at A4 c4 b.length b _ s4 bb (by omega) (Lib.hid rfl) P n1 e1 hO).mono ?_
  rintro e w6 ⟨A5, c5, rfl, o5, b6⟩
  have bt6 := below_trans bt5 b6
  replace hp := hp.below b6
  replace hb := hb.below b6
  replace s1 := s1.below b6
  replace s2 := s2.below b6
  replace s3 := s3.below b6
  replace s4 := s4.below b6
  have s5 := OwnI.sl o5
  clear b6 bt5
  go_wp2_with fail
  refine (ROne_at B d b.length b _ hb bb (by omega) (Lib.hid rfl) P n1 e1 hO).mono ?_
  rintro e w7 ⟨A6, c6, rfl, o6, b7⟩
  have bt7 := below_trans bt6 b7
  replace hp := hp.below b7
  replace hb := hb.below b7
  replace s1 := s1.below b7
  replace s2 := s2.below b7
  replace s3 := s3.below b7
  replace s4 := s4.below b7
  replace s5 := s5.below b7
  have s6 := OwnI.sl o6
  clear b7 bt6
  go_wp2_with fail
  refine (SC _ hb).mono ?_
  rintro e w8 ⟨A7, c7, rfl, o7, b8⟩
  have bt8 := below_trans bt7 b8
  replace hp := hp.below b8
  replace hb := hb.below b8
  replace s1 := s1.below b8
  replace s2 := s2.below b8
  replace s3 := s3.below b8
  replace s4 := s4.below b8
  replace s5 := s5.below b8
  replace s6 := s6.below b8
  have s7 := OwnS.sl o7
  clear b8 bt7
  go_wp2_with fail
  refine (RS _ hb).mono ?_
  rintro e w9 ⟨A8, c8, rfl, o8, b9⟩
  have bt9 := below_trans bt8 b9
  replace hp := hp.below b9
  replace hb := hb.below b9
  replace s1 := s1.below b9
  replace s2 := s2.below b9
  replace s3 := s3.below b9
  replace s4 := s4.below b9
  replace s5 := s5.below b9
  replace s6 := s6.below b9
  replace s7 := s7.below b9
  have s8 := OwnS.sl o8
  clear b9 bt8
  go_wp2_with fail
  refine (AC _ hb).mono ?_
  rintro e w10 ⟨A9, c9, rfl, o9, b10⟩
  have bt10 := below_trans bt9 b10
  replace hp := hp.below b10
  replace hb := hb.below b10
  replace s1 := s1.below b10
  replace s2 := s2.below b10
  replace s3 := s3.below b10
  replace s4 := s4.below b10
  replace s5 := s5.below b10
  replace s6 := s6.below b10
  replace s7 := s7.below b10
  replace s8 := s8.below b10
  have s9 := OwnS.sl o9
  clear b10 bt9
  go_wp2_with fail
  refine (RA _ hb).mono ?_
  rintro e w11 ⟨A10, c10, rfl, o10, b11⟩
  have bt11 := below_trans bt10 b11
  replace hp := hp.below b11
  replace hb := hb.below b11
  replace s1 := s1.below b11
  replace s2 := s2.below b11
  replace s3 := s3.below b11
  replace s4 := s4.below b11
  replace s5 := s5.below b11
  replace s6 := s6.below b11
  replace s7 := s7.below b11
  replace s8 := s8.below b11
  replace s9 := s9.below b11
  have s10 := OwnS.sl o10
  clear b11 bt10
  go_wp2_with fail
  refine (Same_at A2 A3 c2 c3 F.length F.length F F _ s2 s3 (Lib.hid rfl) (Lib.hid rfl) true (Lib.hid (by simp))).mono ?_
  rintro e w12 ⟨rfl, b12⟩
  have bt12 := below_trans bt11 b12
  replace hp := hp.below b12
  replace hb := hb.below b12
  replace s1 := s1.below b12
  replace s2 := s2.below b12
  replace s3 := s3.below b12
  replace s4 := s4.below b12
  replace s5 := s5.below b12
  replace s6 := s6.below b12
  replace s7 := s7.below b12
  replace s8 := s8.below b12
  replace s9 := s9.below b12
  replace s10 := s10.below b12
  clear b12 bt11
  go_wp2_with fail
  refine (Same_at A5 A6 c5 c6 P.length P.length P P _ s5 s6 (Lib.hid rfl) (Lib.hid rfl) true (Lib.hid (by simp))).mono ?_
  rintro e w13 ⟨rfl, b13⟩
  have bt13 := below_trans bt12 b13
  replace hp := hp.below b13
  replace hb := hb.below b13
  replace s1 := s1.below b13
  replace s2 := s2.below b13
  replace s3 := s3.below b13
  replace s4 := s4.below b13
  replace s5 := s5.below b13
  replace s6 := s6.below b13
  replace s7 := s7.below b13
  replace s8 := s8.below b13
  replace s9 := s9.below b13
  replace s10 := s10.below b13
  clear b13 bt12
  go_wp2_with fail
  refine (Lists_at A7 A8 c7 c8 L.length L.length L L _ s7 s8 (Lib.hid rfl) (Lib.hid rfl) true (Lib.hid (by simp))).mono ?_
  rintro e w14 ⟨rfl, b14⟩
  have bt14 := below_trans bt13 b14
  replace hp := hp.below b14
  replace hb := hb.below b14
  replace s1 := s1.below b14
  replace s2 := s2.below b14
  replace s3 := s3.below b14
  replace s4 := s4.below b14
  replace s5 := s5.below b14
  replace s6 := s6.below b14
  replace s7 := s7.below b14
  replace s8 := s8.below b14
  replace s9 := s9.below b14
  replace s10 := s10.below b14
  clear b14 bt13
  go_wp2_with fail
  refine (Lists_at A9 A10 c9 c10 M.length M.length M M _ s9 s10 (Lib.hid rfl) (Lib.hid rfl) true (Lib.hid (by simp))).mono ?_
  rintro e w15 ⟨rfl, b15⟩
  have bt15 := below_trans bt14 b15
  replace hp := hp.below b15
  replace hb := hb.below b15
  replace s1 := s1.below b15
  replace s2 := s2.below b15
  replace s3 := s3.below b15
  replace s4 := s4.below b15
  replace s5 := s5.below b15
  replace s6 := s6.below b15
  replace s7 := s7.below b15
  replace s8 := s8.below b15
  replace s9 := s9.below b15
  replace s10 := s10.below b15
  clear b15 bt14
  go_wp2_with fail
  refine (Size_calls n _).mono ?_
  rintro e w' ⟨rfl, rfl⟩
  go_wp2_with fail
  refine (RSize_calls n _).mono ?_
  rintro e w' ⟨rfl, rfl⟩
  go_wp2_with fail
  go_ret
  exact ⟨by first | rfl | simp, bt15⟩
set_option maxRecDepth 100000 in
theorem FrameCalls_row (A : Option Addr) (c : Nat) (p : List Int) (B : Option Addr) (d : Nat) (b : List Int) (n : Int) (w : World) (hp : SlI w .u8 A c p) (fp : ∀ n ∈ p, (Lit.int .u8 n).wf = true) (_sp : p.length * 1 ≤ 140737488351232) (hb : SlI w .u8 B d b) (fb : ∀ n ∈ b, (Lit.int .u8 n).wf = true) (_sb : b.length * 1 ≤ 140737488351232) (_n : (Lit.int .i64 n).wf = true) :
    Calls Try.prog 7 #[.slice A p.length c, .slice B b.length d, .int .i64 n] w fun e w' => e = .returned (.bool true) ∧ Below w.heap.size w w' := by
  have hm := hp.len
  have hm2 := hb.len
  by_cases h1 : p.length > 400
  · have i1 : (p.length : Int) > 400 := by omega
    go_enter Try.func7, Try.ntmps7
    go_wp2_with fail
    refine (lives_calls _).mono ?_
    rintro e w1 ⟨rfl, b1⟩
    go_wp2_with fail
    go_ret
    exact ⟨rfl, b1⟩
  · by_cases h2 : b.length > 400
    · have i1 : ¬ (p.length : Int) > 400 := by omega
      have i2 : (b.length : Int) > 400 := by omega
      go_enter Try.func7, Try.ntmps7
      go_wp2_with fail
      refine (lives_calls _).mono ?_
      rintro e w1 ⟨rfl, b1⟩
      go_wp2_with fail
      go_ret
      exact ⟨rfl, b1⟩
    · exact fcalls_core A B c d p b n w hp (fun x hx => bdU8 (fp x hx)) hb (fun x hx => bdU8 (fb x hx)) (by omega) (by omega)
end Go.Proofs.Ytipjmglieedimaa
