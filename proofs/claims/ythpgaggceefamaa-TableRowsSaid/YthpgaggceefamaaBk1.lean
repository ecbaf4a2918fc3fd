/- book.shaped, Check, Dim. -/
import Derived.Test.YthpgaggceefamaaFind
import Derived.Test.YthpgaggceefamaaVecM
import Derived.Test.YthpgaggceefamaaLit
import Derived.RangeFuncNested
namespace Go.Proofs.Ythpgaggceefamaa
set_option linter.unusedVariables false
set_option linter.unusedSimpArgs false
open Go.RowKit
def n0B (b : List (List (List Int))) : Nat := (b.getD 0 []).length
def wdB (b : List (List (List Int))) : Nat := ((b.getD 0 []).getD 0 []).length
def badV (w : Nat) (v : List Int) : Bool := decide (v.length ≠ w)
def badL (n w : Nat) (l : List (List Int)) : Bool := decide (l.length ≠ n) || l.any (badV w)
def far (v : List Int) : Bool := decide (ckW v ≠ 0)
/-- Is a book shaped as it may be? -/
def shB (b : List (List (List Int))) : Bool := !(decide (b.length < 1 ∨ b.length > 1024 ∨ n0B b < 1 ∨ n0B b > 256 ∨ wdB b < 1 ∨ wdB b > 1024 ∨ wdB b * b.length > 1024)) && !(b.any (badL (n0B b) (wdB b)))
/-- What Check answers. -/
def ckB (b : List (List (List Int))) : Int := if shB b = false then 2 else if b.any (fun l => l.any far) then 11 else 0
def dimB (b : List (List (List Int))) : Int := if ckB b ≠ 0 then 0 else ((b.length * wdB b : Nat) : Int)
theorem neq_len (n m : Nat) : (((n : Nat) : Int) != ((m : Nat) : Int)) = decide (n ≠ m) := by
  by_cases h : n = m
  · subst h; simp
  · rw [decide_eq_true h]; simp; omega
theorem shV_calls (g : Nat) (B : Option Addr) (d : Nat) (v : List Int) (m : Nat) (w : World) (h : SlI w .i32 B d v) (hc : w.cell? ⟨g, 0, none⟩ = some (.int .i64 (m : Int))) :
    Calls Try.prog 66 #[.slice B v.length d, .pointer (some ⟨g, 0, none⟩)] w fun e w' => e = .returned (.bool (badV m v)) ∧ w = w' := by
  have H := Lib.hid (neq_len v.length m)
  go_enter Try.func66, Try.ntmps66
  go_wp2_with fail
  go_ret
  exact ⟨ret_bool H.out, rfl⟩
theorem shL_calls (f g : Nat) (A B : Option Addr) (c d : Nat) (b : List (List (List Int))) (l : List (List Int)) (m : Nat) (w : World) (hB : SlB w .i32 A c b) (h1 : 1 ≤ b.length) (h : SlS w .i32 B d l)
    (hb : w.cell? ⟨f, 0, none⟩ = some (.slice A b.length c)) (hc : w.cell? ⟨g, 0, none⟩ = some (.int .i64 (m : Int))) :
    Calls Try.prog 65 #[.slice B l.length d, .pointer (some ⟨f, 0, none⟩), .pointer (some ⟨g, 0, none⟩)] w fun e w' => e = .returned (.bool (badL (n0B b) m l)) ∧ w = w' := by
  obtain ⟨a0, E, k, rfl, hx, _⟩ := hB.get 0 (by omega)
  rw [show a0.add 0 = a0 from rfl] at hx
  have i1 : (0 : Int) < (b.length : Int) := by omega
  have CC := Contains3_calls (.pointer (some ⟨g, 0, none⟩)) (badV m) B d l w h fun B d x hx => shV_calls g B d x m w hx hc
  by_cases h2 : l.length = n0B b
  · have H := Lib.hid (show badL (n0B b) m l = l.any (badV m) by unfold badL; simp [h2])
    have i2 : ((l.length : Int) != (n0B b : Int)) = false := by rw [neq_len]; exact decide_eq_false (by simpa using h2)
    rw [show (b.getD 0 []).length = n0B b from rfl] at hx
    generalize n0B b = n at *
    clear h2
    go_enter Try.func65, Try.ntmps65
    go_wp2_with fail
    refine CC.mono ?_
    rintro e w1 ⟨rfl, rfl⟩
    go_wp2_with fail
    go_ret
    exact ⟨ret_bool H.out.symm, rfl⟩
  · have H := Lib.hid (show badL (n0B b) m l = true by unfold badL; simp [h2])
    have i2 : ((l.length : Int) != (n0B b : Int)) = true := by rw [neq_len]; exact decide_eq_true h2
    rw [show (b.getD 0 []).length = n0B b from rfl] at hx
    generalize n0B b = n at *
    clear h2
    go_enter Try.func65, Try.ntmps65
    go_wp2_with fail
    go_ret
    exact ⟨ret_bool H.out.symm, rfl⟩
theorem shB_no {b : List (List (List Int))} (h : b.length < 1 ∨ b.length > 1024 ∨ n0B b < 1 ∨ n0B b > 256 ∨ wdB b < 1 ∨ wdB b > 1024 ∨ wdB b * b.length > 1024) : shB b = false := by
  unfold shB; rw [decide_eq_true h]; rfl
theorem shaped_calls (A : Option Addr) (c : Nat) (b : List (List (List Int))) (w : World) (h : SlB w .i32 A c b) :
    Calls Try.prog 57 #[.agg #[.slice A b.length c]] w fun e w' => e = .returned (.bool (shB b)) ∧ Below w.heap.size w w' := by
  have hm := h.len
  have b1 := below_alloc (Below.refl w.heap.size w) (.cells #[.slice A b.length c] 24)
  have hbox := box_cell (w := w) 24 (.slice A b.length c)
  by_cases h1 : b.length < 1
  · have H := Lib.hid (shB_no (b := b) (.inl h1))
    have i1 : (b.length : Int) < 1 := by omega
    go_enter Try.func57, Try.ntmps57
    go_wp2_with fail
    go_ret
    exact ⟨ret_bool H.out.symm, b1⟩
  have i1 : ¬ (b.length : Int) < 1 := by omega
  by_cases h2 : b.length > 1024
  · have H := Lib.hid (shB_no (b := b) (.inr (.inl h2)))
    have i2 : (b.length : Int) > 1024 := by omega
    go_enter Try.func57, Try.ntmps57
    go_wp2_with fail
    go_ret
    exact ⟨ret_bool H.out.symm, b1⟩
  have i2 : ¬ (b.length : Int) > 1024 := by omega
  have j0 : (0 : Int) < (b.length : Int) := by omega
  obtain ⟨a0, E, k, rfl, hx0, hs0⟩ := h.get 0 (by omega)
  rw [show a0.add 0 = a0 from rfl] at hx0
  have hx := cell_below b1 _ _ hx0
  have hn : (b.getD 0 []).length = n0B b := rfl
  have hsl := hs0.len
  by_cases h3 : n0B b < 1
  · have H := Lib.hid (shB_no (b := b) (.inr (.inr (.inl h3))))
    rw [hn] at hx
    generalize n0B b = n at *
    have i3 : (n : Int) < 1 := by omega
    go_enter Try.func57, Try.ntmps57
    go_wp2_with fail
    go_ret
    exact ⟨ret_bool H.out.symm, b1⟩
  by_cases h4 : n0B b > 256
  · have H := Lib.hid (shB_no (b := b) (.inr (.inr (.inr (.inl h4)))))
    rw [hn] at hx
    generalize n0B b = n at *
    have i3 : ¬ (n : Int) < 1 := by omega
    have i4 : (n : Int) > 256 := by omega
    go_enter Try.func57, Try.ntmps57
    go_wp2_with fail
    go_ret
    exact ⟨ret_bool H.out.symm, b1⟩
  obtain ⟨e0, G, q, rfl, hy0, hv0⟩ := hs0.get 0 (by rw [hn]; omega)
  rw [show e0.add 0 = e0 from rfl] at hy0
  have hy := cell_below b1 _ _ hy0
  have hvl := hv0.len
  have hw : ((b.getD 0 []).getD 0 []).length = wdB b := rfl
  have i3 : ¬ (n0B b : Int) < 1 := by omega
  have i4 : ¬ (n0B b : Int) > 256 := by omega
  have j1 : (0 : Int) < (n0B b : Int) := by omega
  have b2 := below_alloc b1 (.cells #[.int .i64 (wdB b : Int)] 3)
  have hbox2 := cell_below (below_alloc (Below.refl (w.alloc (.cells #[.slice (some a0) b.length c] 24)).heap.size _) (.cells #[.int .i64 (wdB b : Int)] 3)) _ _ hbox
  have hwc := box_cell (w := w.alloc (.cells #[.slice (some a0) b.length c] 24)) 3 (.int .i64 (wdB b : Int))
  rw [World.size_alloc] at hwc
  rw [hw] at hy hvl
  rw [hn] at hx
  by_cases h5 : wdB b < 1
  · have H := Lib.hid (shB_no (b := b) (.inr (.inr (.inr (.inr (.inl h5))))))
    generalize wdB b = m at *
    generalize n0B b = n at *
    have i5 : (m : Int) < 1 := by omega
    clear hw hn
    go_enter Try.func57, Try.ntmps57
    go_wp2_with fail
    go_ret
    exact ⟨ret_bool H.out.symm, b2⟩
  by_cases h6 : wdB b > 1024
  · have H := Lib.hid (shB_no (b := b) (.inr (.inr (.inr (.inr (.inr (.inl h6)))))))
    generalize wdB b = m at *
    generalize n0B b = n at *
    have i5 : ¬ (m : Int) < 1 := by omega
    have i6 : (m : Int) > 1024 := by omega
    clear hw hn
    go_enter Try.func57, Try.ntmps57
    go_wp2_with fail
    go_ret
    exact ⟨ret_bool H.out.symm, b2⟩
  have hpos : (0 : Int) ≤ (wdB b : Int) * (b.length : Int) := Int.mul_nonneg (by omega) (by omega)
  have htop : (wdB b : Int) * (b.length : Int) ≤ 1024 * 1024 := Int.mul_le_mul (by omega) (by omega) (by omega) (by omega)
  have hcast : ((wdB b * b.length : Nat) : Int) = (wdB b : Int) * (b.length : Int) := Int.natCast_mul _ _
  by_cases h7 : wdB b * b.length > 1024
  · have H := Lib.hid (shB_no (b := b) (.inr (.inr (.inr (.inr (.inr (.inr h7)))))))
    have i7 : (wdB b : Int) * (b.length : Int) > 1024 := by omega
    generalize wdB b = m at *
    generalize n0B b = n at *
    have i5 : ¬ (m : Int) < 1 := by omega
    have i6 : ¬ (m : Int) > 1024 := by omega
    clear hw hn hcast
    go_enter Try.func57, Try.ntmps57
    go_wp2_with fail
    go_ret
    exact ⟨ret_bool H.out.symm, b2⟩
  have H := Lib.hid (show shB b = !(b.any (badL (n0B b) (wdB b))) by
    unfold shB
    rw [decide_eq_false (by rintro (x | x | x | x | x | x | x); exact h1 x; exact h2 x; exact h3 x; exact h4 x; exact h5 x; exact h6 x; exact h7 x)]
    rfl)
  have CC := Contains4_calls (.pointer (some ⟨w.heap.size, 0, none⟩)) (.pointer (some ⟨w.heap.size + 1, 0, none⟩)) (badL (n0B b) (wdB b)) (some a0) c b _ (h.below b2) fun B d x hx' =>
    shL_calls w.heap.size (w.heap.size + 1) (some a0) B c d b x (wdB b) _ (h.below b2) (by omega) hx' hbox2 hwc
  have i7 : ¬ (wdB b : Int) * (b.length : Int) > 1024 := by omega
  generalize b.any (badL (n0B b) (wdB b)) = bb at *
  generalize wdB b = m at *
  generalize n0B b = n at *
  have i5 : ¬ (m : Int) < 1 := by omega
  have i6 : ¬ (m : Int) > 1024 := by omega
  clear hw hn hcast h3 h4 h5 h6 h7
  go_enter Try.func57, Try.ntmps57
  go_wp2_with fail
  refine CC.mono ?_
  rintro e w1 ⟨rfl, rfl⟩
  go_wp2_with fail
  go_ret
  exact ⟨ret_bool H.out.symm, b2⟩
end Go.Proofs.Ythpgaggceefamaa
