import Derived.Test.YteajcneojclddaaSum3
import Derived.Laws.Bits128
namespace Go.Proofs.Yteajcneojclddaa
set_option linter.unusedVariables false
set_option linter.unusedSimpArgs false
open Go.RowKit
theorem byteMap_calls (w : World) :
    Calls Try.prog 25 #[] w fun en w' => en = .returned (.agg (nums .u32 (mat 1)).toArray) ∧ Below w.heap.size w w' := by
  have zv := (zero_of_info (P := Try.prog) (t := 42) (v := .agg (nums .u32 (List.replicate 32 0)).toArray) (n := 32) (by kernel_rfl)).1
  have hn := Arr.alloc w 42 (List.replicate 32 0)
  obtain ⟨zs, hz⟩ : ∃ zs : List Int, Hid (zs = List.replicate 32 0) := ⟨_, Lib.hid rfl⟩
  rw [← hz.out] at zv hn
  go_enter Try.func25, Try.ntmps25
  go_wp2_with fail
  go_loopg [1, 2, 3] 33 (fun gk u1 u2 i w' => ∃ (j : Nat) (xs : List Int), i = .int .i64 (j : Int) ∧ j ≤ 32 ∧ 32 < j + gk ∧ Hid (xs.length = 32 ∧ ∀ k, k < j → xs.getD k 0 = uv (TN 1 (1#32 <<< k))) ∧ Arr w' w.heap.size 42 xs ∧ Below w.heap.size w w')
  case atStart => exact ⟨0, zs, rfl, by omega, by omega, ⟨by rw [hz.out]; exact List.length_replicate, fun k hk => by omega⟩, hn, below_alloc (Below.refl _ _) _⟩
  case round =>
    clear hn
    obtain ⟨j, xs, rfl, hj, hg, hx, hn, hb⟩ := hrel
    obtain ⟨G, hG⟩ : ∃ G, Hid (G = gk) := ⟨gk, Lib.hid rfl⟩
    by_cases hlt : j < 32
    · have hjl : (j : Int) < 32 := by omega
      have hcell := hn.cell j (by have := hx.out.1; omega)
      have hfr := hn.froze j
      have hset := hn.set j (uv (TN 1 (1#32 <<< j)))
      have bset := hb.setCell (p := ⟨w.heap.size, j, none⟩) (Nat.le_refl _) (.int .u32 (uv (TN 1 (1#32 <<< j))))
      have HX := Lib.hid (show (xs.set j (uv (TN 1 (1#32 <<< j)))).length = 32 ∧ ∀ k, k < j + 1 → (xs.set j (uv (TN 1 (1#32 <<< j)))).getD k 0 = uv (TN 1 (1#32 <<< k)) from
        ⟨by simpa using hx.out.1, fun k hk => getD_set_lt hx.out.1 hlt (f := fun k => uv (TN 1 (1#32 <<< k))) rfl hx.out.2 hk⟩)
      generalize xs.getD j 0 = old at hcell
      go_wp2_with fail
      go_loopg [2, 8] 9 (fun gk s i w' => ∃ m : Nat, i = .int .i64 (m : Int) ∧ s = .int .u32 (uv (mvN m (1#32 <<< j))) ∧ m ≤ 8 ∧ 8 < m + gk ∧ w' = wr)
      case atStart =>
        exact ⟨0, rfl, by rw [uv_one]; rfl, by omega, by omega, rfl⟩
      case round =>
        obtain ⟨m, rfl, rfl, hm, hg2, rfl⟩ := hrel
        by_cases hm8 : m < 8
        · have hml : (m : Int) < 8 := by omega
          go_wp2_with fail
          refine (move_calls _ _).mono ?_
          rintro e w' ⟨rfl, rfl⟩
          go_wp2_with fail
          go_roundg (gk - 1)
          case measure => omega
          case rel => exact ⟨m + 1, by simp, by rw [mvN_succ], by omega, by omega, rfl⟩
        · have hml : ¬ (m : Int) < 8 := by omega
          obtain rfl : m = 8 := by omega
          go_wp2_with fail
          go_roundg (G - 1)
          case measure => have := hG.out; omega
          case rel => exact ⟨j + 1, _, by simp, by omega, by have := hG.out; omega, HX, hset, bset⟩
    · have hjl : ¬ (j : Int) < 32 := by omega
      have hj2 : j = 32 := by omega
      have hT : Hid (xs = mat 1) := mat_of hx.out.1 (fun k hk => hx.out.2 k (by omega))
      have HU := Lib.hid Try.underlying42
      have HS := Lib.hid (show (Try.prog.info? 42).map (·.size) = some 32 by kernel_rfl)
      have HN := Lib.hid hx.out.1
      clear hx hj2 hj
      go_wp2_with (first
        | (refine wp_load_arr rfl 42 _ rfl hn HU.out HS.out HN.out rfl ?_)
        | (refine wp_restore_arr rfl 42 _ _ rfl hn HS.out HN.out rfl rfl rfl ?_))
      exact ret_arr (rfl) rfl hn HU.out HS.out HN.out ⟨by rw [hT.out], hb⟩
theorem i64_and1 (n : Int) (h : 0 ≤ n) (h2 : n ≤ 9223372036854775807) : bits .and .i64 n 1 = n % 2 := by
  have h1 : (BitVec.ofInt 64 1).toNat = 2 ^ 1 - 1 := by decide
  have key : (BitVec.ofInt 64 n &&& BitVec.ofInt 64 1).toNat = (n % ((2 ^ 64 : Nat) : Int)).toNat % 2 ^ 1 := by
    rw [BitVec.toNat_and, BitVec.toNat_ofInt, h1, Nat.and_two_pow_sub_one_eq_mod]
  show IntKind.i64.wrap ((BitVec.ofInt 64 n &&& BitVec.ofInt 64 1).toNat : Nat) = n % 2
  rw [key, IntKind.wrap_i64]
  omega
theorem i64_odd (n : Int) (h : 0 ≤ n) (h2 : n ≤ 9223372036854775807) : (bits .and .i64 n 1 == 1) = decide (n % 2 = 1) := by
  rw [i64_and1 n h h2]; rfl
theorem TN_step_odd (e : Nat) {n : Int} (h : 0 < n) (ho : n % 2 = 1) (r : BitVec 32) : TN ((e + e) * (n / 2).toNat) (TN e r) = TN (e * n.toNat) r := by
  rw [← TN_add]
  congr 1
  have : n.toNat = 2 * (n / 2).toNat + 1 := by omega
  rw [this, Nat.mul_add, Nat.mul_one, ← Nat.mul_assoc, Nat.mul_two]; omega
theorem TN_step_even (e : Nat) {n : Int} (h : 0 < n) (ho : ¬ n % 2 = 1) (r : BitVec 32) : TN ((e + e) * (n / 2).toNat) r = TN (e * n.toNat) r := by
  congr 1
  have : n.toNat = 2 * (n / 2).toNat := by omega
  rw [this, ← Nat.mul_assoc, Nat.mul_two]
set_option maxHeartbeats 1000000 in
theorem through_calls (s : BitVec 32) (n : Int) (w : World) (hn64 : n ≤ 9223372036854775807) :
    Calls Try.prog 21 #[.int .u32 (uv s), .int .i64 n] w fun en w' => en = .returned (.int .u32 (uv (TN n.toNat s))) ∧ Below w.heap.size w w' := by
  have zv := (zero_of_info (P := Try.prog) (t := 42) (v := .agg (nums .u32 (List.replicate 32 0)).toArray) (n := 32) (by kernel_rfl)).1
  obtain ⟨zs, hz⟩ : ∃ zs : List Int, Hid (zs = List.replicate 32 0) := ⟨_, Lib.hid rfl⟩
  rw [← hz.out] at zv
  have HS := Lib.hid (show (Try.prog.info? 42).map (·.size) = some 32 by kernel_rfl)
  have HN := Lib.hid (show zs.length = 32 by rw [hz.out]; exact List.length_replicate)
  have HM := Lib.hid mat_len
  go_enter Try.func21, Try.ntmps21
  go_wp2_with fail
  refine (byteMap_calls _).mono ?_
  rintro e w1 ⟨rfl, b1⟩
  have ha := Arr.alloc w1 42 zs
  have pw : w.heap.size ≤ w1.heap.size := b1.size
  have ha2 := ha.row (mat 1)
  have hb2 := below_setRow (below_alloc b1 (.cells (nums .u32 zs).toArray 42)) pw (nums .u32 (mat 1)).toArray
  go_wp2_with (first
    | (refine wp_store_arr rfl 42 _ _ rfl (mat 1) ha HS.out HN.out (HM.out 1) rfl rfl rfl ?_))
  obtain ⟨N, hN⟩ : ∃ N : Nat, Hid (N = n.toNat) := ⟨_, Lib.hid rfl⟩
  go_loopg [0, 1] (n.toNat + 1) (fun gk s' u w' => ∃ (r : BitVec 32) (m : Int) (e : Nat), s' = .int .u32 (uv r) ∧ u = .int .i64 m ∧ m ≤ 9223372036854775807 ∧ m.toNat < gk ∧ Hid (TN (e * m.toNat) r = TN N s) ∧ Arr w' w1.heap.size 42 (mat e) ∧ Below w.heap.size w w')
  case atStart => exact ⟨s, n, 1, rfl, rfl, hn64, by omega, by show _ = _; rw [hN.out, Nat.one_mul], ha2, hb2⟩
  case round =>
    clear ha2 hb2 ha
    obtain ⟨r, m, e, rfl, rfl, hm, hg, hr, ha, hb⟩ := hrel
    by_cases h0 : m > 0
    · have hod := i64_odd m (by omega) hm
      by_cases ho : m % 2 = 1
      · replace hod : (bits .and .i64 m 1 == 1) = true := by rw [hod]; simp [ho]
        have hst := Lib.hid ((TN_step_odd e h0 ho r).trans hr.out)
        clear ho
        go_wp2_with fail
        refine (times_calls _ e r _ ha).mono ?_
        rintro en w2 ⟨rfl, b2⟩
        have ha2 := ha.below b2
        have hb2 := below_trans hb b2
        go_wp2_with fail
        refine (square_calls _ e _ ha2).mono ?_
        rintro en w3 ⟨rfl, b3⟩
        have ha3 := ha2.below b3
        have hb3 := below_trans hb2 b3
        have ha4 := ha3.row (mat (e + e))
        have hb4 := below_setRow hb3 pw (nums .u32 (mat (e + e))).toArray
        go_wp2_with (first
          | (refine wp_store_arr rfl 42 _ _ rfl (mat (e + e)) ha3 HS.out (HM.out e) (HM.out (e + e)) rfl rfl rfl ?_))
        go_roundg (gk - 1)
        case measure => omega
        case rel => exact ⟨_, m / 2, e + e, rfl, rfl, by omega, by omega, hst, ha4, hb4⟩
      · replace hod : (bits .and .i64 m 1 == 1) = false := by rw [hod]; simp [ho]
        have hst := Lib.hid ((TN_step_even e h0 ho r).trans hr.out)
        clear ho
        go_wp2_with fail
        refine (square_calls _ e _ ha).mono ?_
        rintro en w3 ⟨rfl, b3⟩
        have ha3 := ha.below b3
        have hb3 := below_trans hb b3
        have ha4 := ha3.row (mat (e + e))
        have hb4 := below_setRow hb3 pw (nums .u32 (mat (e + e))).toArray
        go_wp2_with (first
          | (refine wp_store_arr rfl 42 _ _ rfl (mat (e + e)) ha3 HS.out (HM.out e) (HM.out (e + e)) rfl rfl rfl ?_))
        go_roundg (gk - 1)
        case measure => omega
        case rel => exact ⟨_, m / 2, e + e, rfl, rfl, by omega, by omega, hst, ha4, hb4⟩
    · have hz0 : m.toNat = 0 := by omega
      have hf := Lib.hid (show r = TN N s by have := hr.out; rw [hz0, Nat.mul_zero] at this; exact this)
      clear hz0
      go_wp2_with fail
      go_ret
      rw [← hN.out, ← hf.out]
      exact ⟨rfl, hb⟩
theorem Join_calls (a b : BitVec 32) (n : Int) (w : World) (hn64 : n ≤ 9223372036854775807) :
    Calls Try.prog 14 #[.int .u32 (uv a), .int .u32 (uv b), .int .i64 n] w fun en w' => en = .returned (.int .u32 (uv (if n < 1 then a else join a b n.toNat))) ∧ Below w.heap.size w w' := by
  by_cases h : n < 1
  · rw [if_pos h]
    go_enter Try.func14, Try.ntmps14
    go_wp2_with fail
    go_ret
    exact ⟨rfl, Below.refl _ _⟩
  · rw [if_neg h]
    have hx := uv_xor (TN n.toNat a) b
    go_enter Try.func14, Try.ntmps14
    go_wp2_with fail
    refine (through_calls a n w hn64).mono ?_
    rintro en w1 ⟨rfl, b1⟩
    go_wp2_with fail
    go_ret
    exact ⟨rfl, b1⟩
theorem Noughts_calls (s : BitVec 32) (n : Int) (w : World) (hn64 : n ≤ 9223372036854775807) :
    Calls Try.prog 15 #[.int .u32 (uv s), .int .i64 n] w fun en w' => en = .returned (.int .u32 (uv (noughts s n.toNat))) ∧ Below w.heap.size w w' := by
  have h1 := uv_notm s
  have h2 := uv_notm (TN n.toNat (~~~ s))
  have hsg : IntKind.u32.signed = false := rfl
  go_enter Try.func15, Try.ntmps15
  go_wp2_with fail
  refine (through_calls _ n w hn64).mono ?_
  rintro en w1 ⟨rfl, b1⟩
  go_wp2_with fail
  go_ret
  exact ⟨rfl, b1⟩
end Go.Proofs.Yteajcneojclddaa
