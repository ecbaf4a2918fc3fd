import Derived.Test.YtipjmglieedimaaSumBurst
namespace Go.Proofs.Ytipjmglieedimaa
set_option linter.unusedVariables false
set_option linter.unusedSimpArgs false
open Go.RowKit
theorem Of_calls (A : Option Addr) (c : Nat) (b : List Int) (w : World) (h : SlI w .u8 A c b) (hb : Bytes b) :
    Calls Try.prog 37 #[.slice A b.length c] w fun e w' => e = .returned (.int .u32 (uv (more 0#32 b))) ∧ Below w.heap.size w w' := by
  have h0 : uv 0#32 = 0 := by decide
  have hc := h0 ▸ More_calls A c b 0#32 w h hb
  go_enter Try.func37, Try.ntmps37
  go_wp2_with fail
  refine hc.mono ?_
  rintro e w1 ⟨rfl, b1⟩
  go_wp2_with fail
  go_ret
  exact ⟨rfl, b1⟩
theorem uv_bitk (a : BitVec 32) (k : Nat) : (bits .and .u32 (uv a / 2 ^ k) 1 == 1) = a.getLsbD k := by
  rw [uv_shr, uv_odd, BitVec.getLsbD_ushiftRight]; rfl
theorem uv_tmod (a : BitVec 32) : (uv a).tmod 2 = if a.getLsbD 0 then 1 else 0 := by
  have h := uv_range a
  rw [Int.tmod_eq_emod_of_nonneg h.1, BitVec.getLsbD, Nat.testBit_zero]
  unfold uv
  rcases Nat.mod_two_eq_zero_or_one a.toNat with h | h
  · rw [show (a.toNat : Int) % 2 = 0 by omega, h]; rfl
  · rw [show (a.toNat : Int) % 2 = 1 by omega, h]; rfl
theorem uv_rem5 (a : BitVec 32) (k : Nat) : ((uv a / 2 ^ k).tmod 2 == 1) = a.getLsbD k := by
  rw [← uv_bitk a k, uv_shr, uv_bit0]
  unfold uv
  rw [Int.tmod_eq_emod_of_nonneg (by omega), BitVec.getLsbD, Nat.testBit_zero]
  rcases Nat.mod_two_eq_zero_or_one (a >>> k).toNat with h | h
  · rw [show ((a >>> k).toNat : Int) % 2 = 0 by omega, h]; rfl
  · rw [show ((a >>> k).toNat : Int) % 2 = 1 by omega, h]; rfl
theorem RStep_calls (r : BitVec 32) (x : Int) (w : World) (h0 : 0 ≤ x) (h1 : x ≤ 255) :
    Calls Try.prog 40 #[.int .u32 (uv r), .int .u8 x] w fun e w' => e = .returned (.int .u32 (uv (mvN 8 (r ^^^ by32 x)))) ∧ w' = w := by
  have hx : x = uv (by32 x) := by unfold uv; rw [by32_toNat h0 h1]; omega
  have hx2 := uv_xor r (by32 x)
  rw [← hx] at hx2
  generalize r ^^^ by32 x = s0 at *
  clear hx
  go_enter Try.func40, Try.ntmps40
  go_wp2_with fail
  go_loopg [0, 5, 6] 9 (fun gk s k u w' => ∃ m : Nat, k = .int .i64 (m : Int) ∧ s = .int .u32 (uv (mvN m s0)) ∧ m ≤ 8 ∧ 8 < m + gk ∧ w' = w)
  case atStart => exact ⟨0, rfl, rfl, by omega, by omega, rfl⟩
  case round =>
    obtain ⟨m, rfl, rfl, hm, hg, rfl⟩ := hrel
    by_cases hm8 : m < 8
    · have hml : (m : Int) < 8 := by omega
      have ho := uv_tmod (mvN m s0)
      cases hb : (mvN m s0).getLsbD 0 with
      | true =>
        rw [hb] at ho
        replace ho : (uv (mvN m s0)).tmod 2 = 1 := ho
        have h2 := uv_mv_odd hb
        go_wp2
        go_roundg (gk - 1)
        case measure => omega
        case rel => exact ⟨m + 1, by simp, by rw [mvN_succ], by omega, by omega, rfl⟩
      | false =>
        rw [hb] at ho
        replace ho : (uv (mvN m s0)).tmod 2 = 0 := ho
        have h2 := uv_mv_even hb
        go_wp2
        go_roundg (gk - 1)
        case measure => omega
        case rel => exact ⟨m + 1, by simp, by rw [mvN_succ], by omega, by omega, rfl⟩
    · have hml : ¬ (m : Int) < 8 := by omega
      obtain rfl : m = 8 := by omega
      go_wp2_with fail
      go_ret
      exact ⟨rfl, rfl⟩
theorem RMore_calls (A : Option Addr) (c : Nat) (b : List Int) (s : BitVec 32) (w : World) (h : SlI w .u8 A c b) (hb : Bytes b) :
    Calls Try.prog 33 #[.int .u32 (uv s), .slice A b.length c] w fun e w' => e = .returned (.int .u32 (uv (more s b))) ∧ Below w.heap.size w w' := by
  have hm := h.len
  have hnot := uv_notm s
  have hsg : IntKind.u32.signed = false := rfl
  go_enter Try.func33, Try.ntmps33
  go_wp2_with fail
  go_loopg [5, 6] (b.length + 1) (fun gk s' i w' => ∃ j : Nat, i = .int .i64 (j : Int) ∧ s' = .int .u32 (uv (feed (~~~ s) (b.take j))) ∧ j ≤ b.length ∧ b.length < j + gk ∧ Below w.heap.size w w')
  case atStart => exact ⟨0, rfl, rfl, by omega, by omega, Below.refl _ _⟩
  case round =>
    obtain ⟨j, rfl, rfl, hj, hg, hb2⟩ := hrel
    by_cases hlt : j < b.length
    · have hjl : (j : Int) < (b.length : Int) := by omega
      obtain ⟨ad, rfl, hcell⟩ := (h.below hb2).get j hlt
      have hcb := hb.getD hlt
      have ft := Lib.hid (feed_take (~~~ s) b j hlt)
      generalize b.getD j 0 = x at *
      go_wp2_with fail
      refine (RStep_calls _ x _ hcb.1 hcb.2).mono ?_
      rintro e w' ⟨rfl, rfl⟩
      go_wp2_with fail
      go_roundg (gk - 1)
      case measure => omega
      case rel => exact ⟨j + 1, by simp, by rw [ft.out], by omega, by omega, hb2⟩
    · have hjl : ¬ (j : Int) < (b.length : Int) := by omega
      obtain rfl : j = b.length := by omega
      have hnot2 := uv_notm (feed (~~~ s) b)
      rw [List.take_length] at *
      go_wp2_with fail
      go_ret
      exact ⟨rfl, hb2⟩
theorem ROf_calls (A : Option Addr) (c : Nat) (b : List Int) (w : World) (h : SlI w .u8 A c b) (hb : Bytes b) :
    Calls Try.prog 34 #[.slice A b.length c] w fun e w' => e = .returned (.int .u32 (uv (more 0#32 b))) ∧ Below w.heap.size w w' := by
  have h0 : uv 0#32 = 0 := by decide
  have hc := h0 ▸ RMore_calls A c b 0#32 w h hb
  go_enter Try.func34, Try.ntmps34
  go_wp2_with fail
  refine hc.mono ?_
  rintro e w1 ⟨rfl, b1⟩
  go_wp2_with fail
  go_ret
  exact ⟨rfl, b1⟩
theorem uv_rem (a : BitVec 32) (k : Nat) : ((uv a / 2 ^ k).tmod 2 == 1) = a.getLsbD k := by
  rw [← uv_bitk a k, uv_shr, uv_bit0]
  unfold uv
  rw [Int.tmod_eq_emod_of_nonneg (by omega), BitVec.getLsbD, Nat.testBit_zero]
  rcases Nat.mod_two_eq_zero_or_one (a >>> k).toNat with h | h
  · rw [show ((a >>> k).toNat : Int) % 2 = 0 by omega, h]; rfl
  · rw [show ((a >>> k).toNat : Int) % 2 = 1 by omega, h]; rfl
end Go.Proofs.Ytipjmglieedimaa
