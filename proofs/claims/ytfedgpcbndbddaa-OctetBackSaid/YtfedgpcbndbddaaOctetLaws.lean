import Derived.Test.YtfedgpcbndbddaaOctet
namespace Go.Proofs.Ytfedgpcbndbddaa
set_option linter.unusedVariables false
set_option linter.unusedSimpArgs false
open Go.RowKit
/-- A literal slice. -/
theorem lit_sl {w : World} {k : IntKind} {e : TypeId} (xs : List Int) (hm : xs.length ≤ maxLen) : SlI (w.alloc (.cells (nums k xs).toArray e)) k (some ⟨w.heap.size, 0, none⟩) xs.length xs := by
  have h := World.ownsRow_lit (base := w.heap.size) (e := e) (size := 1) w (nums k xs).toArray xs.length (Nat.le_refl _) hm (by simp [nums])
  simp only at h
  exact OwnI.sl (base := w.heap.size) (E := e) h
theorem lit_at {w : World} {k : IntKind} {e : TypeId} {B : Nat} (xs : List Int) (hB : w.heap.size = B) (hm : xs.length ≤ maxLen) : SlI (w.alloc (.cells (nums k xs).toArray e)) k (some ⟨B, 0, none⟩) xs.length xs := hB ▸ lit_sl xs hm
theorem put258 : lowB 258 2 = [2, 1] := by decide
theorem Of_is (A : Option Addr) (c : Nat) (b : List Int) (w : World) (h : SlI w .u8 A c b) (hb : Bytes b) (v : Int) (hv : ofB (b.take 8) = v) :
    Calls Try.prog 15 #[.slice A b.length c] w fun e w' => e = .returned (.int .u64 v) ∧ w = w' := hv ▸ Of_calls A c b w h hb
theorem Signed_is (x n : Int) (w : World) (x0 : 0 ≤ x) (x1 : x ≤ 18446744073709551615) (v : Int) (hv : sgn8 x n = v) :
    Calls Try.prog 17 #[.int .u64 x, .int .i64 n] w fun e w' => e = .returned (.int .i64 v) ∧ w = w' := hv ▸ Signed_calls x n w x0 x1
theorem lives_calls (w : World) : Calls Try.prog 10 #[] w fun e w' => e = .returned (.bool true) ∧ Below w.heap.size w w' := by
  go_enter Try.func10, Try.ntmps10
  go_wp2_with fail
  refine (Put_is none 0 [] 258 2 _ (SlI.nil _ _) (by simp) [2, 1] (Lib.hid (by decide))).mono ?_
  rintro e w1 ⟨A1, c1, rfl, h1, b1⟩
  have s1 := h1.sl
  go_wp2_with fail
  refine (Same_byte_calls A1 (some ⟨w1.heap.size, 0, none⟩) c1 2 [2, 1] [2, 1] _ (s1.below (below_alloc (Below.refl _ _) _)) (lit_sl [2, 1] (by decide))).mono ?_
  rintro e w' ⟨rfl, n, rfl⟩
  go_wp2_with fail
  refine (Of_is _ 3 [2, 1, 0] _ (lit_at [2, 1, 0] (by simp) (by decide)) (by unfold Bytes; decide) 258 (by decide)).mono ?_
  rintro e w' ⟨rfl, rfl⟩
  go_wp2_with fail
  refine (Signed_is 255 1 _ (by decide) (by decide) (-1) (by decide)).mono ?_
  rintro e w' ⟨rfl, rfl⟩
  go_wp2_with fail
  refine (Signed_is 255 2 _ (by decide) (by decide) 255 (by decide)).mono ?_
  rintro e w' ⟨rfl, rfl⟩
  go_wp2_with fail
  go_ret
  exact ⟨rfl, below_alloc (below_drewN (below_alloc b1 _) _) _⟩
theorem OctetCalls_calls (A : Option Addr) (c : Nat) (b : List Int) (x n : Int) (w : World) (h : SlI w .u8 A c b) (hb : Bytes b) (x0 : 0 ≤ x) (x1 : x ≤ 18446744073709551615) :
    Calls Try.prog 3 #[.slice A b.length c, .int .u64 x, .int .i64 n] w fun e w' => e = .returned (.bool true) ∧ Below w.heap.size w w' := by
  have hm := h.len
  by_cases hl : b.length > 200
  · have hl2 : (b.length : Int) > 200 := by omega
    go_enter Try.func3, Try.ntmps3
    go_wp2_with (go_at_call 10; refine (lives_calls _).mono ?_; rintro e w1 ⟨rfl, b1⟩)
    go_ret
    exact ⟨rfl, b1⟩
  · have hl2 : ¬ (b.length : Int) > 200 := by omega
    obtain ⟨zs, hz⟩ : ∃ zs, Hid (b ++ lowB x (many8 n) = zs) := ⟨_, Lib.hid rfl⟩
    go_enter Try.func3, Try.ntmps3
    go_wp2_with fail
    refine (lives_calls _).mono ?_
    rintro e w1 ⟨rfl, b1⟩
    go_wp2_with fail
    refine (Own_byte_calls A c b _ (h.below b1) (by omega)).mono ?_
    rintro e w2 ⟨A2, c2, rfl, h2, b2⟩
    have b02 := below_trans b1 b2
    clear b1 b2
    go_wp2_with fail
    refine (Put_is A2 c2 b x n _ h2.sl (by omega) zs hz).mono ?_
    rintro e w3 ⟨A3, c3, rfl, h3, b3⟩
    have b03 := below_trans b02 b3
    clear b02 b3 h2
    go_wp2_with fail
    refine (RPut_is A c b x n _ (h.below b03) (by omega) zs hz).mono ?_
    rintro e w4 ⟨A4, c4, rfl, h4, b4⟩
    have s3 := h3.sl.below b4
    have b04 := below_trans b03 b4
    clear b03 b4 h3
    go_wp2_with fail
    refine (Same_byte_calls A3 A4 c3 c4 _ _ _ s3 h4.sl).mono ?_
    rintro e w' ⟨rfl, n5, rfl⟩
    have s5 : SlI (w4.drewN n5) .u8 A c b := h.below (below_drewN b04 _)
    go_wp2_with (first
      | (go_at_call 15; refine (Of_calls A c b _ s5 hb).mono ?_; rintro e w' ⟨rfl, rfl⟩)
      | (go_at_call 16; refine (ROf_calls A c b _ s5 hb).mono ?_; rintro e w' ⟨rfl, rfl⟩)
      | (go_at_call 17; refine (Signed_calls _ _ _ x0 x1).mono ?_; rintro e w' ⟨rfl, rfl⟩)
      | (go_at_call 18; refine (RSigned_calls _ _ _ x0 x1).mono ?_; rintro e w' ⟨rfl, rfl⟩))
    go_ret
    exact ⟨rfl, below_drewN b04 _⟩
end Go.Proofs.Ytfedgpcbndbddaa
