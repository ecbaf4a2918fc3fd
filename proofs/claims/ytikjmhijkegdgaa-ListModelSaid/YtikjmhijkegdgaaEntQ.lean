/- slices.EqualFunc, IndexFunc of entries. -/
import Derived.Test.YtikjmhijkegdgaaEntS
namespace Go.Proofs.Ytikjmhijkegdgaa
set_option linter.unusedVariables false
set_option linter.unusedSimpArgs false
open Go.RowKit
set_option maxHeartbeats 1000000 in
theorem EqualFuncE_calls (A B : Option Addr) (c d : Nat) (xs ys : List En) (w : World) (h : SlE w A c xs) (k : SlE w B d ys) :
    Calls Try.prog 43 #[.slice A xs.length c, .slice B ys.length d, .func (.func 41) #[] #[]] w fun e w' => e = .returned (.bool (decide (xs = ys))) ∧ Below w.heap.size w w' := by
  have hm := h.len'
  have km := k.len'
  by_cases hl : xs.length = ys.length
  · have hb : ((xs.length : Int) != (ys.length : Int)) = false := by simp [hl]
    have HL := Lib.hid hl
    clear hl
    go_enter Try.func43, Try.ntmps43
    go_wp2_with fail
    go_loopg [7, 8, 9, 17] (xs.length + 1) (fun gk u1 u2 u3 i w' => ∃ j : Nat, i = .int .i64 (j : Int) ∧ j ≤ xs.length ∧ xs.length < j + gk ∧ Hid (∀ t, t < j → xs.getD t ⟨0, [], 0, false⟩ = ys.getD t ⟨0, [], 0, false⟩) ∧ Below w.heap.size w w')
    case atStart => exact ⟨0, rfl, by omega, by omega, (fun _ h => absurd h (by omega)), Below.refl _ _⟩
    case round =>
      obtain ⟨j, rfl, hj, hg, HE, bw⟩ := hrel
      by_cases hlt : j < xs.length
      · have hlt2 : j < ys.length := by have := HL.out; omega
        obtain ⟨ad, B1, d1, rfl, hx, hxs⟩ := (h.below bw).get j hlt
        obtain ⟨bd, B2, d2, rfl, hy, hys⟩ := (k.below bw).get j hlt2
        have i1 : (j : Int) < (xs.length : Int) := by omega
        have i2 : (j : Int) < (ys.length : Int) := by omega
        have HE2 := Lib.hid (fun (hh : xs.getD j ⟨0, [], 0, false⟩ = ys.getD j ⟨0, [], 0, false⟩) t (ht : t < j + 1) => show xs.getD t ⟨0, [], 0, false⟩ = ys.getD t ⟨0, [], 0, false⟩ by
          rcases Nat.lt_or_ge t j with h1 | h1
          · exact HE.out t h1
          · obtain rfl : t = j := by omega
            exact hh)
        have HF := Lib.hid (fun (hh : ¬ xs.getD j ⟨0, [], 0, false⟩ = ys.getD j ⟨0, [], 0, false⟩) => show xs ≠ ys from fun he => hh (by rw [he]))
        generalize xs.getD j ⟨0, [], 0, false⟩ = p at *
        generalize ys.getD j ⟨0, [], 0, false⟩ = q at *
        have bb := below_box0 wr (.cells #[.int .i64 p.id, .slice B1 p.code.length d1, .int .i64 p.rad, .bool p.dead] 33)
        have bc := below_box0 (wr.alloc (.cells #[.int .i64 p.id, .slice B1 p.code.length d1, .int .i64 p.rad, .bool p.dead] 33)) (.cells #[.int .i64 q.id, .slice B2 q.code.length d2, .int .i64 q.rad, .bool q.dead] 33)
        have b2 := below_trans bb bc
        have SM := Same1_calls p q B1 B2 d1 d2 _ (hxs.below b2) (hys.below b2)
        have k0 := (Blk.new wr 33 [.int .i64 p.id, .slice B1 p.code.length d1, .int .i64 p.rad, .bool p.dead]).below bc
        have k1 := Blk.new (wr.alloc (.cells #[.int .i64 p.id, .slice B1 p.code.length d1, .int .i64 p.rad, .bool p.dead] 33)) 33 [.int .i64 q.id, .slice B2 q.code.length d2, .int .i64 q.rad, .bool q.dead]
        rw [World.size_alloc] at k1
        have z0 := k0.cell 0
        have z1 := k0.cell 1
        have z2 := k0.cell 2
        have z3 := k0.cell 3
        have u0 := k1.cell 0
        have u1 := k1.cell 1
        have u2 := k1.cell 2
        have u3 := k1.cell 3
        simp only [List.getElem?_cons_zero, List.getElem?_cons_succ] at z0 z1 z2 z3 u0 u1 u2 u3
        have hy2 := hy.below bb
        obtain ⟨x0, x1, x2, x3⟩ := hx
        obtain ⟨y0, y1, y2, y3⟩ := hy2
        clear hy hxs hys bb bc k0 k1
        by_cases he : p = q
        · rw [decide_eq_true he] at SM
          have HE3 := Lib.hid (HE2.out he)
          clear he HE2 HF
          go_wp2_with fail
          refine SM.mono ?_
          rintro e w1 ⟨rfl, b3⟩
          have b4 := below_trans bw (below_trans b2 b3)
          go_wp2_with fail
          go_roundg (gk - 1)
          case measure => omega
          case rel => exact ⟨j + 1, by simp, by omega, by omega, HE3.out, b4⟩
        · rw [decide_eq_false he] at SM
          have HF2 := Lib.hid (HF.out he)
          clear he HE2 HF
          go_wp2_with fail
          refine SM.mono ?_
          rintro e w1 ⟨rfl, b3⟩
          have b4 := below_trans bw (below_trans b2 b3)
          go_wp2_with fail
          go_ret
          exact ⟨ret_bool (decide_eq_false HF2.out).symm, b4⟩
      · have i1 : ¬ (j : Int) < (xs.length : Int) := by omega
        have HF := Lib.hid (show xs = ys from ents_ext HL.out fun t ht => HE.out t (by omega))
        go_wp2_with fail
        go_ret
        exact ⟨ret_bool (decide_eq_true HF.out).symm, bw⟩
  · have hb : ((xs.length : Int) != (ys.length : Int)) = true := by simp; omega
    have HF := Lib.hid (show xs ≠ ys from fun hh => hl (by rw [hh]))
    clear hl
    go_enter Try.func43, Try.ntmps43
    go_wp2_with fail
    go_ret
    exact ⟨ret_bool (decide_eq_false HF.out).symm, Below.refl _ _⟩
/-- Where the first dead one stands; -1: none is. -/
def deadAt (xs : List En) : Int := match xs.findIdx? (·.dead) with | some j => (j : Int) | none => -1
set_option maxHeartbeats 1000000 in
theorem IndexDead_calls (A : Option Addr) (c : Nat) (xs : List En) (w : World) (h : SlE w A c xs) :
    Calls Try.prog 51 #[.slice A xs.length c, .func (.func 36) #[] #[]] w fun e w' => e = .returned (.int .i64 (deadAt xs)) ∧ Below w.heap.size w w' := by
  have hm := h.len'
  go_enter Try.func51, Try.ntmps51
  go_wp2_with fail
  go_loopg [5, 8] (xs.length + 1) (fun gk u i w' => ∃ j : Nat, i = .int .i64 (j : Int) ∧ j ≤ xs.length ∧ xs.length < j + gk ∧ Hid (∀ t, t < j → (xs.getD t ⟨0, [], 0, false⟩).dead = false) ∧ Below w.heap.size w w')
  case atStart => exact ⟨0, rfl, by omega, by omega, (fun _ h => absurd h (by omega)), Below.refl _ _⟩
  case round =>
    obtain ⟨j, rfl, hj, hg, HE, bw⟩ := hrel
    by_cases hlt : j < xs.length
    · obtain ⟨ad, B1, d1, rfl, hx, hxs⟩ := (h.below bw).get j hlt
      have i1 : (j : Int) < (xs.length : Int) := by omega
      have HE2 := Lib.hid (fun (hh : (xs.getD j ⟨0, [], 0, false⟩).dead = false) t (ht : t < j + 1) => show (xs.getD t ⟨0, [], 0, false⟩).dead = false by
        rcases Nat.lt_or_ge t j with h1 | h1
        · exact HE.out t h1
        · obtain rfl : t = j := by omega
          exact hh)
      have HF := Lib.hid (fun (hh : (xs.getD j ⟨0, [], 0, false⟩).dead = true) => show (j : Int) = deadAt xs from by
        suffices hs : xs.findIdx? (·.dead) = some j by unfold deadAt; rw [hs]
        rw [List.findIdx?_eq_some_iff_getElem]
        refine ⟨hlt, by simpa [List.getD_eq_getElem?_getD, hlt] using hh, fun t ht => ?_⟩
        have := HE.out t ht
        simp [List.getD_eq_getElem?_getD, show t < xs.length by omega] at this
        simpa using this)
      generalize xs.getD j ⟨0, [], 0, false⟩ = p at *
      obtain ⟨x0, x1, x2, x3⟩ := hx
      cases hd : p.dead with
      | true =>
        have HF2 := Lib.hid (HF.out hd)
        have HD := Lib.hid hd
        clear HF HE2 hd
        go_wp2_with fail
        refine (dead_calls p B1 d1 _).mono ?_
        rintro e w1 ⟨rfl, b1⟩
        rw [HD.out]
        have b4 := below_trans bw b1
        go_wp2_with fail
        go_ret
        exact ⟨ret_int' HF2.out, b4⟩
      | false =>
        have HE3 := Lib.hid (HE2.out hd)
        have HD := Lib.hid hd
        clear HF HE2 hd
        go_wp2_with fail
        refine (dead_calls p B1 d1 _).mono ?_
        rintro e w1 ⟨rfl, b1⟩
        rw [HD.out]
        have b4 := below_trans bw b1
        go_wp2_with fail
        go_roundg (gk - 1)
        case measure => omega
        case rel => exact ⟨j + 1, by simp, by omega, by omega, HE3.out, b4⟩
    · have i1 : ¬ (j : Int) < (xs.length : Int) := by omega
      have HF := Lib.hid (show (-1 : Int) = deadAt xs from by
        suffices hs : xs.findIdx? (·.dead) = none by unfold deadAt; rw [hs]
        rw [List.findIdx?_eq_none_iff]
        intro x hx
        obtain ⟨t, ht, rfl⟩ := List.mem_iff_getElem.1 hx
        have := HE.out t (by omega)
        simpa [List.getD_eq_getElem?_getD, ht] using this)
      go_wp2_with fail
      go_ret
      exact ⟨ret_int' HF.out, bw⟩
end Go.Proofs.Ytikjmhijkegdgaa
