/- table.row. -/
import Derived.Test.YthpgaggceefamaaBk2
import Derived.Test.YthpgaggceefamaaMake
namespace Go.Proofs.Ythpgaggceefamaa
set_option linter.unusedVariables false
set_option linter.unusedSimpArgs false
open Go.RowKit
/-- The distances of a rest's part to words. -/
def rowI (r : List Int) (ws : List (List Int)) : List Int := ws.map fun v => dsq r v v.length
/-- What stands in the row while it is made: j are done, v is the next one. -/
def outL (r : List Int) (ws : List (List Int)) (j : Nat) (v : Int) : List Int := (List.range ws.length).map fun i => if i < j then dsq r (ws.getD i []) (ws.getD i []).length else if i = j then v else 0
theorem outL_length (r : List Int) (ws : List (List Int)) (j : Nat) (v : Int) : (outL r ws j v).length = ws.length := by simp [outL]
theorem outL_get (r : List Int) (ws : List (List Int)) (j : Nat) (v : Int) (h : j < ws.length) : (outL r ws j v).getD j 0 = v := by simp [outL, List.getD_eq_getElem?_getD, h]
theorem outL_set (r : List Int) (ws : List (List Int)) (j : Nat) (v v' : Int) : (outL r ws j v).set j v' = outL r ws j v' := by
  apply List.ext_getElem
  · simp [outL]
  · intro i h1 h2
    simp only [outL, List.getElem_set, List.getElem_map, List.getElem_range]
    split
    · rename_i h; subst h; simp
    · rename_i h
      split
      · rfl
      · rw [if_neg (fun hh => h hh.symm), if_neg (fun hh => h hh.symm)]
theorem outL_next (r : List Int) (ws : List (List Int)) (j : Nat) : outL r ws j (dsq r (ws.getD j []) (ws.getD j []).length) = outL r ws (j + 1) 0 := by
  apply List.ext_getElem
  · simp [outL]
  · intro i h1 h2
    simp only [outL, List.getElem_map, List.getElem_range]
    by_cases h : i < j
    · rw [if_pos h, if_pos (by omega)]
    · rw [if_neg h]
      by_cases h3 : i = j
      · subst h3; rw [if_pos rfl, if_pos (by omega)]
      · rw [if_neg h3, if_neg (by omega)]; simp
theorem outL_zero (r : List Int) (ws : List (List Int)) : outL r ws 0 0 = List.replicate ws.length 0 := by
  apply List.ext_getElem
  · simp [outL]
  · intro i h1 h2
    simp [outL]
theorem outL_all (r : List Int) (ws : List (List Int)) : outL r ws ws.length 0 = rowI r ws := by
  apply List.ext_getElem
  · simp [outL, rowI]
  · intro i h1 h2
    have hi : i < ws.length := by simpa [outL] using h1
    simp [outL, rowI, hi, List.getD_eq_getElem?_getD]
theorem sq_step (x y s : Int) (m v r : Nat) (h : m < v) (h2 : v ≤ r) (h3 : r ≤ 1024) (q2 : 0 ≤ s ∧ s ≤ ↑m * 68719476736) (q3 : 0 ≤ s + (x - y) * (x - y) ∧ s + (x - y) * (x - y) ≤ ((m + 1 : Nat) : Int) * 68719476736) :
    0 ≤ (x - y) * (x - y) ∧ (x - y) * (x - y) ≤ 70368744177664 ∧ 0 ≤ s + (x - y) * (x - y) ∧ s + (x - y) * (x - y) ≤ 70437463654400 := by
  have q5 : 0 ≤ (x - y) * (x - y) := by
    rcases Int.le_total 0 (x - y) with h | h
    · exact Int.mul_nonneg h h
    · have := Int.mul_nonneg (show 0 ≤ -(x - y) by omega) (show 0 ≤ -(x - y) by omega)
      grind
  generalize (x - y) * (x - y) = P at *
  omega
theorem row_calls (A B : Option Addr) (c d : Nat) (r : List Int) (ws : List (List Int)) (w : World) (h : SlI w .i32 A c r) (k : SlS w .i32 B d ws) (hl : ws.length ≤ 256)
    (hr : ∀ v ∈ r, -131072 ≤ v ∧ v ≤ 131072) (hr2 : r.length ≤ 1024) (hw : ∀ j, j < ws.length → (ws.getD j []).length ≤ r.length ∧ ∀ v ∈ ws.getD j [], -131072 ≤ v ∧ v ≤ 131072) :
    Calls Try.prog 42 #[.slice A r.length c, .slice B ws.length d] w fun e w' => ∃ A' c', e = .returned (.slice A' (rowI r ws).length c') ∧ OwnI w' w.heap.size 2 .i64 A' c' (rowI r ws) ∧ Below w.heap.size w w' := by
  have hm := h.len
  have km := k.len
  have HR := Lib.hid hr
  have HW := Lib.hid hw
  clear hr hw
  have HLEN := Lib.hid (show (rowI r ws).length = ws.length by simp [rowI])
  go_enter Try.func42, Try.ntmps42
  go_wp2_with (refine wp_make rfl _ _ 55 rfl 2 .i64 8 Try.underlying55 (by kernel_rfl) .i64 .i64 (ws.length : Int) ws.length rfl rfl rfl (by omega) (by unfold maxLen; omega) ?_)
  intro w1 o1 b1
  rw [← outL_zero r ws] at o1
  go_wp2_with fail
  go_loopg [6, 7, 8, 9, 10, 16] (ws.length + 1) (fun gk u6 u7 u8 u9 u10 i w' => ∃ j : Nat, i = .int .i64 (j : Int) ∧ j ≤ ws.length ∧ ws.length < j + gk ∧ w'.ownsRow w.heap.size 2 1 (.slice (some ⟨w.heap.size, 0, none⟩) ws.length ws.length) ws.length (nums .i64 (outL r ws j 0)) ∧ Below w.heap.size w w')
  case atStart => exact ⟨0, rfl, by omega, by omega, by have := o1; unfold OwnI at this; rw [outL_length] at this; exact this, b1⟩
  case round =>
    clear b1 o1
    obtain ⟨G, hG⟩ : ∃ G, Hid (G = gk) := ⟨_, Lib.hid rfl⟩
    obtain ⟨j, rfl, hj, hg, oo, bw⟩ := hrel
    by_cases hlt : j < ws.length
    · have j1 : (j : Int) < (ws.length : Int) := by omega
      obtain ⟨al, E, e, rfl, hc, hs⟩ := (k.below bw).get j hlt
      have hs0 := k.get j hlt
      have hwl := (HW.out j hlt).1
      have HV := Lib.hid (HW.out j hlt).2
      have hN := Lib.hid (outL_next r ws j)
      have vl := hs.len
      have hd : ∀ i, i ≤ (ws.getD j []).length → 0 ≤ dsq r (ws.getD j []) i ∧ dsq r (ws.getD j []) i ≤ (i : Int) * 68719476736 := fun i hi => dsq_bd HR.out HV.out i (by omega) hi
      have HD := Lib.hid hd
      clear hd
      have sb : ∀ W, Below w.heap.size w W → ∀ i, i < (ws.getD j []).length → ∃ ad bd, A = some ad ∧ E = some bd ∧ W.cell? (ad.add i) = some (.int .i32 (r.getD i 0)) ∧ W.cell? (bd.add i) = some (.int .i32 ((ws.getD j []).getD i 0)) := fun W hW i hi => by
        obtain ⟨ad, e1, e2⟩ := (h.below hW).get i (by omega)
        obtain ⟨al', E', e', h1, h2, h3⟩ := k.get j hlt
        have h4 := cell_below bw _ _ h2
        cases h1
        rw [hc] at h4
        injection h4 with h4
        injection h4 with h4 h5 h6
        subst h4
        obtain ⟨bd, e3, e4⟩ := (h3.below hW).get i hi
        exact ⟨ad, bd, e1, e3, e2, e4⟩
      have SB := Lib.hid sb
      have HVr := Lib.hid (fun i (hi : i < (ws.getD j []).length) => And.intro (HR.out _ (getD_mem (show i < r.length by omega))) (HV.out _ (getD_mem hi)))
      have HO := Lib.hid (fun v => outL_length r ws j v)
      have HS := Lib.hid (fun v v' => outL_set r ws j v v')
      have HG := Lib.hid (fun v => outL_get r ws j v hlt)
      have HQ := Lib.hid (fun i => show dsq r (ws.getD j []) (i + 1) = dsq r (ws.getD j []) i + (r.getD i 0 - (ws.getD j []).getD i 0) * (r.getD i 0 - (ws.getD j []).getD i 0) from rfl)
      clear hs hs0 sb
      generalize ws.getD j [] = v at *
      go_wp2_with fail
      go_loopg [8, 9, 10, 23] (v.length + 1) (fun gk u8 u9 u10 i w' => ∃ m : Nat, i = .int .i64 (m : Int) ∧ m ≤ v.length ∧ v.length < m + gk ∧ w'.ownsRow w.heap.size 2 1 (.slice (some ⟨w.heap.size, 0, none⟩) ws.length ws.length) ws.length (nums .i64 (outL r ws j (dsq r v m))) ∧ Below w.heap.size w w')
      case atStart => exact ⟨0, rfl, by omega, by omega, oo, bw⟩
      case round =>
        clear oo hc bw
        obtain ⟨m, rfl, hm2, hg2, oo, bw⟩ := hrel
        by_cases hlt2 : m < v.length
        · have m1 : (m : Int) < (v.length : Int) := by omega
          have m2 : (m : Int) < (r.length : Int) := by omega
          obtain ⟨ad, bd, rfl, rfl, hca, hcb⟩ := SB.out _ bw m hlt2
          have q1 := HVr.out m hlt2
          have q2 := HD.out m (by omega)
          have q3 := HD.out (m + 1) (by omega)
          have q4 := Lib.hid (HQ.out m)
          rw [q4.out] at q3
          have oc := OwnI.cell oo j (by rw [HO.out]; exact hlt)
          rw [HG.out] at oc
          obtain ⟨oc1, oc2⟩ := oc
          have ow := OwnI.store oo j (dsq r v (m + 1))
          rw [HS.out, q4.out] at ow
          generalize (r.getD m 0) = x at *
          generalize (v.getD m 0) = y at *
          generalize hdd : dsq r v m = s at *
          obtain ⟨q5, q6, q7⟩ := sq_step x y s m v.length r.length hlt2 hwl hr2 q2 q3
          clear q2 q3
          go_wp2_with fail
          go_roundg (gk - 1)
          case measure => omega
          case rel => exact ⟨m + 1, by simp, by omega, by omega, by rw [q4.out]; exact ow.1, bw.setCell (p := ⟨w.heap.size, j, none⟩) (Nat.le_refl _) _⟩
        · obtain rfl : m = v.length := by omega
          have m1 : ¬ (v.length : Int) < (v.length : Int) := by omega
          rw [hN.out] at oo
          go_wp2_with fail
          go_roundg (G - 1)
          case measure => have := hG.out; omega
          case rel => exact ⟨j + 1, by simp, by omega, by have := hG.out; omega, oo, bw⟩
    · obtain rfl : j = ws.length := by omega
      have j1 : ¬ (ws.length : Int) < (ws.length : Int) := by omega
      rw [outL_all] at oo
      go_wp2_with fail
      go_ret
      exact ⟨some ⟨w.heap.size, 0, none⟩, ws.length, by rw [HLEN.out]; rfl, by unfold OwnI; rw [HLEN.out]; exact oo, bw⟩
end Go.Proofs.Ythpgaggceefamaa
