import Derived.Test.YteajcneojclddaaSum4
import Derived.Test.YteajcneojclddaaLit
import Derived.Lib.SlBytesConst
import Derived.Test.YteajcneojclddaaSized
namespace Go.Proofs.Yteajcneojclddaa
set_option linter.unusedVariables false
set_option linter.unusedSimpArgs false
open Go.RowKit
theorem Of_is (A : Option Addr) (c : Nat) (b : List Int) (w : World) (h : SlI w .u8 A c b) (hb : Bytes b) (v : Int) (hv : Hid (uv (more 0#32 b) = v)) :
    Calls Try.prog 12 #[.slice A b.length c] w fun e w' => e = .returned (.int .u32 v) ∧ Below w.heap.size w w' := hv.out ▸ Of_calls A c b w h hb
theorem lit_mark {w : World} {k : IntKind} {e : TypeId} {fr : Nat × Nat} {B : Nat} (xs : List Int) (hB : w.heap.size = B) (hm : xs.length ≤ maxLen) : SlI (w.alloc (.cells (nums k xs).toArray e fr)) k (some ⟨B, 0, none⟩) xs.length xs := by
  subst hB
  refine ⟨.inr ⟨_, rfl, fun j u hj => ?_⟩, Nat.le_refl _, hm⟩
  rw [Addr.add_lit, Nat.zero_add, cell_of_row _ _ j _ e fr (heap_alloc_last w _)]
  simpa using hj
theorem lives_calls (w : World) : Calls Try.prog 9 #[] w fun e w' => e = .returned (.bool true) ∧ Below w.heap.size w w' := by
  have H1 := Lib.hid (show uv (more 0#32 [49, 50, 51, 52, 53, 54, 55, 56, 57]) = 3808858755 by decide +kernel)
  have H2 := Lib.hid (show uv (more 0#32 []) = 0 by decide +kernel)
  have hcv := Lib.run_convert_bytes_const (P := Try.prog) w 22 5 (nums .u8 [49, 50, 51, 52, 53, 54, 55, 56, 57]).toArray 9 9 Try.underlying22 Try.underlying5
  simp only [nums, List.map_cons, List.map_nil, List.size_toArray, List.length_cons, List.length_nil] at hcv
  go_enter Try.func9, Try.ntmps9
  go_wp2_with fail
  refine (Of_is _ 9 [49, 50, 51, 52, 53, 54, 55, 56, 57] _ (lit_mark (fr := (9, 10)) [49, 50, 51, 52, 53, 54, 55, 56, 57] rfl (by decide)) (by unfold Bytes; decide) _ H1).mono ?_
  rintro e w1 ⟨rfl, b1⟩
  have b2 := below_trans (below_alloc (Below.refl w.heap.size w) _) b1
  go_wp2_with fail
  refine (Of_is none 0 [] _ (SlI.nil _ _) (by simp [Bytes]) _ H2).mono ?_
  rintro e w3 ⟨rfl, b3⟩
  go_wp2_with fail
  go_ret
  exact ⟨rfl, below_trans b2 b3⟩
theorem Join_is (a b : BitVec 32) (n : Int) (w : World) (h1 : 1 ≤ n) (hn64 : n ≤ 9223372036854775807) (r : BitVec 32) (hr : Hid (join a b n.toNat = r)) :
    Calls Try.prog 14 #[.int .u32 (uv a), .int .u32 (uv b), .int .i64 n] w fun en w' => en = .returned (.int .u32 (uv r)) ∧ Below w.heap.size w w' := by
  have := Join_calls a b n w hn64
  rw [if_neg (by omega), hr.out] at this; exact this
theorem SumBrackets_calls (a b c n m : Int) (w : World) (ha : (Lit.int .u32 a).wf = true) (hb : (Lit.int .u32 b).wf = true) (hc : (Lit.int .u32 c).wf = true) :
    Calls Try.prog 5 #[.int .u32 a, .int .u32 b, .int .u32 c, .int .i64 n, .int .i64 m] w fun e w' => e = .returned (.bool true) ∧ Below w.heap.size w w' := by
  obtain ⟨a, rfl⟩ := uv_of (bdU32 ha).1 (bdU32 ha).2
  obtain ⟨b, rfl⟩ := uv_of (bdU32 hb).1 (bdU32 hb).2
  obtain ⟨c, rfl⟩ := uv_of (bdU32 hc).1 (bdU32 hc).2
  clear ha hb hc
  obtain ⟨N, hN⟩ : ∃ N, Hid (N = n % 1099511627776) := ⟨_, Lib.hid rfl⟩
  obtain ⟨M, hM⟩ : ∃ M, Hid (M = m % 1099511627776) := ⟨_, Lib.hid rfl⟩
  have n0 : 0 ≤ N := by have := hN.out; omega
  have n1 : N < 1099511627776 := by have := hN.out; omega
  have m0 : 0 ≤ M := by have := hM.out; omega
  have m1 : M < 1099511627776 := by have := hM.out; omega
  obtain ⟨r1, h1⟩ : ∃ r, Hid (join a b (1 + N).toNat = r) := ⟨_, Lib.hid rfl⟩
  obtain ⟨r2, h2⟩ : ∃ r, Hid (join r1 c (1 + M).toNat = r) := ⟨_, Lib.hid rfl⟩
  obtain ⟨r3, h3⟩ : ∃ r, Hid (join b c (1 + M).toNat = r) := ⟨_, Lib.hid rfl⟩
  have h4 : Hid (join a r3 (1 + N + (1 + M)).toNat = r2) := by
    show _ = _
    rw [← h3.out, ← h2.out, ← h1.out, join_join]
    congr 1; omega
  have h5 : Hid (join 0#32 b (1 + N).toNat = b) := join_zero _ _
  have hz : uv 0#32 = 0 := by decide
  have J5 := fun w => hz ▸ Join_is 0#32 b (1 + N) w (by omega) (by omega) b h5
  go_enter Try.func5, Try.ntmps5
  go_wp2_with fail
  refine (lives_calls _).mono ?_
  rintro e w1 ⟨rfl, b1⟩
  go_wp2_with fail
  refine (hN.out ▸ Pick_calls n 1099511627776 _ (by decide) (by decide) : Calls Try.prog 11 #[.int .i64 n, .int .i64 1099511627776] _ fun e w' => e = .returned (.int .i64 N) ∧ _ = w').mono ?_
  rintro e w' ⟨rfl, rfl⟩
  go_wp2_with fail
  refine (hM.out ▸ Pick_calls m 1099511627776 _ (by decide) (by decide) : Calls Try.prog 11 #[.int .i64 m, .int .i64 1099511627776] _ fun e w' => e = .returned (.int .i64 M) ∧ _ = w').mono ?_
  rintro e w' ⟨rfl, rfl⟩
  go_wp2_with fail
  refine (Join_is a b _ _ (by omega) (by omega) r1 h1).mono ?_
  rintro e w2 ⟨rfl, b2⟩
  have b02 := below_trans b1 b2
  clear b1 b2
  go_wp2_with fail
  refine (Join_is r1 c _ _ (by omega) (by omega) r2 h2).mono ?_
  rintro e w3 ⟨rfl, b3⟩
  have b03 := below_trans b02 b3
  clear b02 b3
  go_wp2_with fail
  refine (Join_is b c _ _ (by omega) (by omega) r3 h3).mono ?_
  rintro e w4 ⟨rfl, b4⟩
  have b04 := below_trans b03 b4
  clear b03 b4
  go_wp2_with fail
  refine (Join_is a r3 _ _ (by omega) (by omega) r2 h4).mono ?_
  rintro e w5 ⟨rfl, b5⟩
  have b05 := below_trans b04 b5
  clear b04 b5
  go_wp2_with fail
  refine (J5 _).mono ?_
  rintro e w6 ⟨rfl, b6⟩
  go_wp2_with fail
  go_ret
  exact ⟨rfl, below_trans b05 b6⟩
end Go.Proofs.Yteajcneojclddaa
