/- TableNames. -/
import Derived.Test.YthpgaggceefamaaTabLives
namespace Go.Proofs.Ythpgaggceefamaa
set_option linter.unusedVariables false
set_option linter.unusedSimpArgs false
open Go.RowKit
abbrev exT : List (List Int) := [[9, 49], [81, 1]]
theorem TMake_at (m : List (List Int) × Int) (b : List (List (List Int))) (r : List Int) (hm : Hid (makeT b r = m)) (n2 : Nat) (x2 : Int) (hn : m.1.length = n2) (hx : m.2 = x2) (nb nr : Nat) (hb : b.length = nb) (hr : r.length = nr) (A B : Option Addr) (c d : Nat) (w : World) (h : SlB w .i32 A c b) (k : SlI w .i32 B d r) :
    Calls Try.prog 13 #[.agg #[.slice A nb c], .slice B nr d] w fun e w' => ∃ A' c', e = .returned (.tuple #[.agg #[.slice A' n2 c'], .int .i64 x2]) ∧ SlS w' .i64 A' c' m.1 ∧ Below w.heap.size w w' := by
  subst hb hr hn hx; rw [← hm.out]; exact TMake_calls A B c d b r w h k
theorem TSum_at (m : Int × Int) (t : List (List Int)) (code : List Int) (hm : Hid (sumT t code = m)) (x1 x2 : Int) (h1 : m.1 = x1) (h2 : m.2 = x2) (nt nc : Nat) (ht : t.length = nt) (hc : code.length = nc) (A B : Option Addr) (c d : Nat) (w : World) (h : SlS w .i64 A c t) (k : SlI w .u8 B d code) (hk : ∀ x ∈ code, 0 ≤ x ∧ x ≤ 255) :
    Calls Try.prog 17 #[.agg #[.slice A nt c], .slice B nc d] w fun e w' => e = .returned (.tuple #[.int .i64 x1, .int .i64 x2]) ∧ Below w.heap.size w w' := by
  subst ht hc h1 h2; rw [← hm.out]; exact TSum_calls A B c d t code w h k hk
theorem TRow_at (m : List Int) (t : List (List Int)) (p : Int) (hm : Hid (rowT t p = m)) (nt nm : Nat) (ht : t.length = nt) (hn : m.length = nm) (A : Option Addr) (c : Nat) (w : World) (h : SlS w .i64 A c t) (hl : m.length * 8 ≤ 140737488355328) :
    Calls Try.prog 25 #[.agg #[.slice A nt c], .int .i64 p] w fun e w' => ∃ A' c', e = .returned (.slice A' nm c') ∧ OwnI w' w.heap.size 2 .i64 A' c' m ∧ Below w.heap.size w w' := by
  subst ht hn; rw [← hm.out] at hl ⊢; exact TRow_calls A c t p w h hl
theorem TCheck_at (m : Int) (t : List (List Int)) (hm : Hid (ckT t = m)) (nt : Nat) (ht : t.length = nt) (A : Option Addr) (c : Nat) (w : World) (h : SlS w .i64 A c t) :
    Calls Try.prog 15 #[.agg #[.slice A nt c]] w fun e w' => e = .returned (.int .i64 m) ∧ Below w.heap.size w w' := by
  subst ht; rw [← hm.out]; exact TCheck_calls A c t w h
theorem mat1 {k : IntKind} {e e2 : TypeId} (W : World) (B : Nat) (hB : W.heap.size = B) (x : Int) :
    SlS ((W.alloc (.cells #[.int k x] e)).alloc (.cells #[.slice (some ⟨B, 0, none⟩) 1 1] e2)) k (some ⟨B + 1, 0, none⟩) 1 [[x]] := by
  have h1 := lit_at (w := W) (k := k) (e := e) [x] hB (by simp [maxLen])
  have h3 := rd_at (w := W.alloc (.cells #[.int k x] e)) (e := e2) (B := B + 1) [.slice (some ⟨B, 0, none⟩) 1 1] (by simp [hB]) (by simp [maxLen])
  exact ⟨⟨_, h3, (RowsI.nil _ k _).snoc (h1.below (below_box _)) (fun _ _ => trivial)⟩, by simp, by simp [maxLen]⟩
set_option maxHeartbeats 1000000 in
set_option maxRecDepth 100000 in
theorem TableNames_calls (w : World) : Calls Try.prog 6 #[] w fun e w' => e = .returned (.bool true) ∧ Below w.heap.size w w' := by
  have M1 := Lib.hid (show makeT bookL [3] = ([], 2) by decide +kernel)
  have M2 := Lib.hid (show makeT [] [3] = ([], 2) by decide +kernel)
  have M3 := Lib.hid (show makeT bookL [3, 9] = (exT, 0) by decide +kernel)
  have S1 := Lib.hid (show sumT exT [0, 2] = (0, 2) by decide +kernel)
  have S2 := Lib.hid (show sumT exT [0] = (0, 2) by decide +kernel)
  have R1 := Lib.hid (show rowT exT 1 = [81, 1] by decide +kernel)
  have R2 := Lib.hid (show rowT exT 2 = [] by decide +kernel)
  have C1 := Lib.hid (show ckT [[-1]] = 2 by decide +kernel)
  have TL := fun A c w h => TLeast_calls A c [] w h
  rw [show leastT [] = (0, []) by decide +kernel] at TL
  go_enter Try.func6, Try.ntmps6
  go_wp2_with fail
  refine (book_calls _).mono ?_
  rintro e w1 ⟨A1, c1, rfl, hb1, b1⟩
  go_wp2_with fail
  refine (TMake_at _ _ _ M1 0 2 rfl rfl 2 1 rfl rfl A1 (some ⟨w1.heap.size, 0, none⟩) c1 1 _ (hb1.below (below_box _)) (lit_at [3] rfl (by simp [maxLen]))).mono ?_
  rintro e w2 ⟨A2, c2, rfl, _, b2⟩
  have bt2 := below_trans (below_alloc b1 _) b2
  clear b1 b2 hb1
  have bt3 := below_alloc bt2 (.cells #[.slice A2 0 c2] 35)
  go_wp2_with fail
  refine (TMake_at _ _ _ M2 0 2 rfl rfl 0 1 rfl rfl none (some ⟨w2.heap.size + 1, 0, none⟩) 0 1 _ (SlB.nil _ _) (lit_at [3] (by simp) (by simp [maxLen]))).mono ?_
  rintro e w3 ⟨A3, c3, rfl, _, b3⟩
  have bt4 := below_alloc (below_trans (below_alloc bt3 _) b3) (.cells #[.slice A3 0 c3] 35)
  clear bt2 bt3 b3
  go_wp2_with fail
  refine (book_calls _).mono ?_
  rintro e w4 ⟨A4, c4, rfl, hb4, b4⟩
  have bt5 := below_trans bt4 b4
  clear bt4 b4
  go_wp2_with fail
  refine (TMake_at _ _ _ M3 2 0 rfl rfl 2 2 rfl rfl A4 (some ⟨w4.heap.size, 0, none⟩) c4 2 _ (hb4.below (below_box _)) (lit_at [3, 9] rfl (by simp [maxLen]))).mono ?_
  rintro e w5 ⟨A5, c5, rfl, hs5, b5⟩
  have bt6 := below_alloc (below_trans (below_alloc bt5 _) b5) (.cells #[.slice A5 2 c5] 35)
  have hbox := box_cell (w := w5) 35 (.slice A5 2 c5)
  have hs := hs5.below (below_box (.cells #[.slice A5 2 c5] 35))
  clear bt5 b5 hb4 hs5
  go_wp2_with fail
  refine (TSum_at _ _ _ S1 0 2 rfl rfl 2 2 rfl rfl A5 (some ⟨w5.heap.size + 1, 0, none⟩) c5 2 _ (hs.below (below_box _)) (lit_at [0, 2] (by simp) (by simp [maxLen])) (by decide)).mono ?_
  rintro e w6 ⟨rfl, b6⟩
  have b6' := below_trans (below_box (.cells #[.int .u8 0, .int .u8 2] 5)) b6
  replace hbox := cell_below b6' _ _ hbox
  replace hs := hs.below b6'
  have bt7 := below_trans bt6 b6'
  clear bt6 b6 b6'
  go_wp2_with fail
  refine (TSum_at _ _ _ S2 0 2 rfl rfl 2 1 rfl rfl A5 (some ⟨w6.heap.size, 0, none⟩) c5 1 _ (hs.below (below_box _)) (lit_at [0] rfl (by simp [maxLen])) (by decide)).mono ?_
  rintro e w7 ⟨rfl, b7⟩
  have b7' := below_trans (below_box (.cells #[.int .u8 0] 5)) b7
  replace hbox := cell_below b7' _ _ hbox
  replace hs := hs.below b7'
  have bt8 := below_trans bt7 b7'
  clear bt7 b7 b7'
  go_wp2_with fail
  refine (TL none 0 _ (SlS.nil _ _)).mono ?_
  rintro e w8 ⟨A8, c8, rfl, _, b8⟩
  replace hbox := cell_below b8 _ _ hbox
  replace hs := hs.below b8
  have bt9 := below_trans bt8 b8
  clear bt8 b8
  go_wp2_with fail
  refine (lives_calls _).mono ?_
  rintro e w9 ⟨rfl, b9⟩
  replace hbox := cell_below b9 _ _ hbox
  replace hs := hs.below b9
  have bt10 := below_trans bt9 b9
  clear bt9 b9
  go_wp2_with fail
  refine (TRow_at _ _ _ R1 2 2 rfl rfl A5 c5 _ hs (by decide)).mono ?_
  rintro e w10 ⟨A10, c10, rfl, o10, b10⟩
  replace hbox := cell_below b10 _ _ hbox
  replace hs := hs.below b10
  have bt11 := below_trans bt10 b10
  clear bt10 b10
  go_wp2_with fail
  refine (Same_int64_b A10 (some ⟨w10.heap.size, 0, none⟩) c10 2 [81, 1] [81, 1] _ ((OwnI.sl o10).below (below_box _)) (lit_at [81, 1] rfl (by simp [maxLen]))).mono ?_
  rintro e w11 ⟨rfl, b11⟩
  have b11' := below_trans (below_box (.cells #[.int .i64 81, .int .i64 1] 2)) b11
  replace hbox := cell_below b11' _ _ hbox
  replace hs := hs.below b11'
  have bt12 := below_trans bt11 b11'
  clear bt11 b11 b11' o10
  go_wp2_with fail
  refine (TRow_at _ _ _ R2 2 0 rfl rfl A5 c5 _ hs (by decide)).mono ?_
  rintro e w12 ⟨A12, c12, rfl, _, b12⟩
  replace hbox := cell_below b12 _ _ hbox
  replace hs := hs.below b12
  have bt13 := below_trans bt12 b12
  clear bt12 b12
  go_wp2_with fail
  have bb := below_alloc (below_box (w := w12) (.cells #[.int .i64 (-1)] 2)) (.cells #[.slice (some ⟨w12.heap.size, 0, none⟩) 1 1] 55)
  refine (TCheck_at _ _ C1 1 rfl (some ⟨w12.heap.size + 1, 0, none⟩) 1 _ (mat1 w12 w12.heap.size rfl (-1))).mono ?_
  rintro e w13 ⟨rfl, b13⟩
  have b13' := below_trans bb b13
  replace hbox := cell_below b13' _ _ hbox
  replace hs := hs.below b13'
  have bt14 := below_trans bt13 b13'
  clear bt13 b13 b13' bb
  go_wp2_with fail
  refine (TSame_calls A5 A5 c5 c5 exT exT _ hs hs).mono ?_
  rintro e w14 ⟨rfl, b14⟩
  go_wp2_with fail
  go_ret
  exact ⟨rfl, below_trans bt14 b14⟩
end Go.Proofs.Ythpgaggceefamaa
