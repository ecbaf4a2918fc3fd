import Derived.Test.YteajcneojclddaaSumLaws
import Derived.Test.YteajcneojclddaaSumBurst
namespace Go.Proofs.Yteajcneojclddaa
set_option linter.unusedVariables false
set_option linter.unusedSimpArgs false
open Go.RowKit
theorem uv_rem (a : BitVec 32) (k : Nat) : ((uv a / 2 ^ k).tmod 2 == 1) = a.getLsbD k := by
  rw [← uv_bitk a k, uv_shr, uv_bit0]
  unfold uv
  rw [Int.tmod_eq_emod_of_nonneg (by omega), BitVec.getLsbD, Nat.testBit_zero]
  rcases Nat.mod_two_eq_zero_or_one (a >>> k).toNat with h | h
  · rw [show ((a >>> k).toNat : Int) % 2 = 0 by omega, h]; rfl
  · rw [show ((a >>> k).toNat : Int) % 2 = 1 by omega, h]; rfl
set_option maxHeartbeats 1000000 in
theorem bursts_core (A : Option Addr) (c : Nat) (b : List Int) (n : Int) (V : BitVec 32) (w : World) (h : SlI w .u8 A c b) (hb : Bytes b) (hl : b.length ≤ 600) (hl0 : 0 < b.length) :
    Calls Try.prog 3 #[.slice A b.length c, .int .i64 n, .int .u32 (uv V)] w fun e w' => e = .returned (.bool true) ∧ Below w.heap.size w w' := by
  have i1 : ¬ (b.length : Int) > 600 := by omega
  have i2 : ((b.length : Int) == 0) = false := by rw [beq_eq_false_iff_ne]; omega
  obtain ⟨at_, hat⟩ : ∃ a : Nat, Hid (n % (8 * (b.length : Int)) = (a : Int)) := ⟨(n % (8 * (b.length : Int))).toNat, by show _ = _; rw [Int.toNat_of_nonneg (Int.emod_nonneg _ (by omega))]⟩
  have hat1 : at_ < 8 * b.length := by have := hat.out; have := Int.emod_lt_of_pos n (show 0 < 8 * (b.length : Int) by omega); omega
  go_enter Try.func3, Try.ntmps3
  go_wp2_with fail
  refine (lives_calls _).mono ?_
  rintro e w1 ⟨rfl, b1⟩
  go_wp2_with fail
  refine (Own_byte_calls A c b _ (h.below b1) (by omega)).mono ?_
  rintro e w2 ⟨A2, c2, rfl, h2, b2⟩
  have b02 := below_trans b1 b2
  have h2' := own_mono h2 b1.size
  clear b1 b2 h2
  go_wp2_with fail
  refine (hat.out ▸ Pick_calls n (8 * (b.length : Int)) _ (by omega) (by omega) : Calls Try.prog 11 #[.int .i64 n, .int .i64 (8 * (b.length : Int))] _ fun e w' => e = .returned (.int .i64 (at_ : Int)) ∧ _ = w').mono ?_
  rintro e w' ⟨rfl, rfl⟩
  obtain ⟨g, rfl, hg0, hg1⟩ := own_form h2' hl0
  go_wp2_with fail
  go_loopg [8] 33 (fun gk i w' => ∃ (k : Nat) (ys : List Int), i = .int .i64 (k : Int) ∧ k ≤ 32 ∧ at_ + k ≤ 8 * b.length ∧ 32 < k + gk ∧ ys.length = b.length ∧ Bytes ys ∧ Hid (∀ p, p < 8 * b.length → bt ys p = (bt b p ^^ (decide (at_ ≤ p) && (low k V).getLsbD (p - at_)))) ∧ OwnI w' w.heap.size 5 .u8 (some ⟨g, 0, none⟩) c2 ys ∧ Below w.heap.size w w')
  case atStart => exact ⟨0, b, rfl, by omega, by omega, by omega, rfl, hb, fun p hp => by rw [low_zero]; simp, h2', b02⟩
  case round =>
    clear h2' b02
    obtain ⟨k, ys, rfl, hk, hak, hg, hyl, hyb, hbits, h2, b2⟩ := hrel
    by_cases hlt : k < 32 ∧ at_ + k < 8 * b.length
    · have k1 : (k : Int) < 32 := by omega
      have k2 : (at_ : Int) + (k : Int) < 8 * (b.length : Int) := by omega
      have hidx : (at_ + k) / 8 < ys.length := by omega
      obtain ⟨hc1, hc2⟩ := OwnI.cell h2 ((at_ + k) / 8) hidx
      have hv := uv_rem V k
      cases hvk : V.getLsbD k with
      | true =>
        rw [hvk] at hv
        have N1 := flip_bytes hyb (q := at_ + k) (by omega)
        have N2 := Lib.hid (flip_next hlt.1 hvk hyl hyb hlt.2 hbits.out)
        have N3 : (ys.set ((at_ + k) / 8) (bits .xor .u8 (ys.getD ((at_ + k) / 8) 0) (2 ^ ((at_ + k) % 8) % 256))).length = b.length := by rw [List.length_set]; exact hyl
        have N4 := OwnI.put h2 ((at_ + k) / 8) (bits .xor .u8 (ys.getD ((at_ + k) / 8) 0) (2 ^ ((at_ + k) % 8) % 256))
        have N5 := b2.setCell (p := ⟨g, (at_ + k) / 8, none⟩) hg0 (.int .u8 (bits .xor .u8 (ys.getD ((at_ + k) / 8) 0) (2 ^ ((at_ + k) % 8) % 256)))
        generalize ys.getD ((at_ + k) / 8) 0 = y at *
        generalize hz : bits .xor .u8 y (2 ^ ((at_ + k) % 8) % 256) = z at *
        generalize ys.set ((at_ + k) / 8) z = zs at *
        go_wp2
        go_roundg (gk - 1)
        case measure => omega
        case rel => exact ⟨k + 1, zs, by simp, by omega, by omega, by omega, N3, N1, N2, N4, N5⟩
      | false =>
        rw [hvk] at hv
        have hl1 : low (k + 1) V = low k V := by rw [low_succ, hvk]; rfl
        have HL := Lib.hid hl1
        clear hl1
        go_wp2
        go_roundg (gk - 1)
        case measure => omega
        case rel => exact ⟨k + 1, ys, by simp, by omega, by omega, by omega, hyl, hyb, by show _; rw [HL.out]; exact hbits.out, h2, b2⟩
    · have hbu := burst hyl hb hyb at_ hat1 (low k V) hbits.out (fun i hi => by
        rw [low_bit hk]
        simp [show ¬ i < k by omega])
      obtain ⟨x, hx⟩ : ∃ x, Hid (uv (more 0#32 ys) = x) := ⟨_, Lib.hid rfl⟩
      obtain ⟨y, hy⟩ : ∃ y, Hid (uv (more 0#32 b) = y) := ⟨_, Lib.hid rfl⟩
      have hsame : (x == y) = decide (b = ys) := by
        rw [← hx.out, ← hy.out]
        by_cases he : b = ys
        · rw [hbu.2 he]; simp [he]
        · have : uv (more 0#32 ys) ≠ uv (more 0#32 b) := fun hh => he (hbu.1 (uv_inj hh))
          simp [he, this]
      obtain ⟨q, hq⟩ : ∃ q, Hid (decide (b = ys) = q) := ⟨_, Lib.hid rfl⟩
      rw [hq.out] at hsame
      have SM : ∀ w', SlI w' .u8 A c b → SlI w' .u8 (some ⟨g, 0, none⟩) c2 ys → Calls Try.prog 13 #[.slice A b.length c, .slice (some ⟨g, 0, none⟩) b.length c2] w' fun e w'' => e = .returned (.bool q) ∧ Below w'.heap.size w' w'' := fun w' k1 k2 => by
        have := Same_byte_b A (some ⟨g, 0, none⟩) c c2 b ys w' k1 k2
        rw [hyl, hq.out] at this; exact this
      have SO : ∀ w', SlI w' .u8 (some ⟨g, 0, none⟩) c2 ys → Calls Try.prog 12 #[.slice (some ⟨g, 0, none⟩) b.length c2] w' fun e w'' => e = .returned (.int .u32 x) ∧ Below w'.heap.size w' w'' := fun w' k1 => by
        have := Of_is (some ⟨g, 0, none⟩) c2 ys w' k1 hyb x hx
        rw [hyl] at this; exact this
      have hends : ¬ (k : Int) < 32 ∨ ((k : Int) < 32 ∧ ¬ (at_ : Int) + (k : Int) < 8 * (b.length : Int)) := by omega
      have h2b := h2
      clear hbu hbits
      have s2 := OwnI.sl h2
      rcases hends with k1 | ⟨k1, k2⟩
      · go_wp2_with fail
        refine (SO _ s2).mono ?_
        rintro e w3 ⟨rfl, b3⟩
        have b03 := below_trans b2 b3
        have s3 := s2.below b3
        clear b3
        go_wp2_with fail
        refine (Of_is A c b _ (h.below b03) hb y hy).mono ?_
        rintro e w4 ⟨rfl, b4⟩
        have b04 := below_trans b03 b4
        have s4 := s3.below b4
        clear b03 b4 s3
        go_wp2_with fail
        refine (SM _ (h.below b04) s4).mono ?_
        rintro e w5 ⟨rfl, b5⟩
        have b05 := below_trans b04 b5
        go_wp2_with fail
        go_ret
        exact ⟨by simp only [beq_self_eq_true]; rfl, b05⟩
      · go_wp2_with fail
        refine (SO _ s2).mono ?_
        rintro e w3 ⟨rfl, b3⟩
        have b03 := below_trans b2 b3
        have s3 := s2.below b3
        clear b3
        go_wp2_with fail
        refine (Of_is A c b _ (h.below b03) hb y hy).mono ?_
        rintro e w4 ⟨rfl, b4⟩
        have b04 := below_trans b03 b4
        have s4 := s3.below b4
        clear b03 b4 s3
        go_wp2_with fail
        refine (SM _ (h.below b04) s4).mono ?_
        rintro e w5 ⟨rfl, b5⟩
        have b05 := below_trans b04 b5
        go_wp2_with fail
        go_ret
        exact ⟨by simp only [beq_self_eq_true]; rfl, b05⟩
theorem SumBursts_calls (A : Option Addr) (c : Nat) (b : List Int) (n m : Int) (w : World) (h : SlI w .u8 A c b) (hb : Bytes b) (hm : (Lit.int .u32 m).wf = true) :
    Calls Try.prog 3 #[.slice A b.length c, .int .i64 n, .int .u32 m] w fun e w' => e = .returned (.bool true) ∧ Below w.heap.size w w' := by
  obtain ⟨V, rfl⟩ := uv_of (bdU32 hm).1 (bdU32 hm).2
  have hlen := h.len
  by_cases hl : b.length > 600
  · have i1 : (b.length : Int) > 600 := by omega
    go_enter Try.func3, Try.ntmps3
    go_wp2_with fail
    refine (lives_calls _).mono ?_
    rintro e w1 ⟨rfl, b1⟩
    go_wp2_with fail
    go_ret
    exact ⟨rfl, b1⟩
  · by_cases hl0 : b.length = 0
    · have i1 : ¬ (b.length : Int) > 600 := by omega
      have i2 : ((b.length : Int) == 0) = true := by rw [beq_iff_eq]; omega
      go_enter Try.func3, Try.ntmps3
      go_wp2_with fail
      refine (lives_calls _).mono ?_
      rintro e w1 ⟨rfl, b1⟩
      go_wp2_with fail
      go_ret
      exact ⟨rfl, b1⟩
    · exact bursts_core A c b n V w h hb (by omega) (by omega)
end Go.Proofs.Yteajcneojclddaa
