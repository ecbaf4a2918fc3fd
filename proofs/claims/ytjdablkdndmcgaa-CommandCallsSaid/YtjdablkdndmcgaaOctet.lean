/- octet and its reference: what they come to. -/
import Derived.Test.YtjdablkdndmcgaaKit
import Derived.Laws.BitsAllLaws
namespace Go.Proofs.Ytjdablkdndmcgaa
set_option linter.unusedVariables false
set_option linter.unusedSimpArgs false
open Go.RowKit
attribute [local go_sem] run_max run_min
/-- The low bytes of x, m of them. -/
def lowB (x : Int) (m : Nat) : List Int := (List.range m).map fun i => x / 2 ^ (8 * i) % 256
/-- How many bytes a number gets. -/
def many8 (n : Int) : Nat := (min (max n 0) 8).toNat
theorem many8_le (n : Int) : many8 n ≤ 8 := by unfold many8; omega
theorem lowB_succ (x : Int) (m : Nat) : lowB x (m + 1) = lowB x m ++ [x / 2 ^ (8 * m) % 256] := by simp [lowB, List.range_succ]
theorem lowB_length (x : Int) (m : Nat) : (lowB x m).length = m := by simp [lowB]
/-- The number of bytes, the lowest first. -/
def ofB : List Int → Int
  | [] => 0
  | b :: l => b + 256 * ofB l
set_option maxHeartbeats 400000 in
theorem Put_calls (A : Option Addr) (c : Nat) (b : List Int) (x n : Int) (w : World) (h : SlI w .u8 A c b) (hl : b.length ≤ 140737488355320) :
    Calls Try.prog 57 #[.slice A b.length c, .int .u64 x, .int .i64 n] w fun e w' => RetOwn 5 .u8 (b ++ lowB x (many8 n)) w e w' := by
  have hm := h.len
  obtain ⟨i0, hi, hz0, hz1, hz2⟩ := info_parts (P := Try.prog) (e := 5) (z := .int .u8 0) (size := 1) (bytes := 1) (by kernel_rfl)
  go_enter Try.func57, Try.ntmps57
  go_wp2_with (at_make; refine wpList_make_own _ rfl _ _ 25 rfl w.heap.size 5 i0 (.int .u8 0) 1 Try.underlying25 hi hz0 hz1 _ _ _ (b.length + 8) rfl rfl (by omega) ?_ ?_ ?_ ?_)
  · rw [hz2]; omega
  · unfold maxLen; omega
  · exact Nat.le_refl _
  intro w1 hown1 hg1
  have hB1 : Below w.heap.size w w1 := (Below.refl _ _).grown hg1 (Nat.le_refl _) (fun k hk => by cases hk)
  go_wp2_with (at_builtin; refine app_row w.heap.size rfl _ _ 25 5 .u8 1 rfl Try.underlying25 (by kernel_rfl) (by decide) _ _ [] b A c rfl rfl hown1 (h.below hB1).rd hB1.size (by simp; omega) ?_)
  intro B2 c2 w2 hown2 hg2 _ _
  have hB2 := below_grown hB1 hg2 hown1 (Nat.le_refl _)
  clear hg1 hg2 hown1 hB1
  go_wp2
  go_loopg [7, 18] 9 (fun g v i w' => ∃ (j : Nat) (ys : List Int) (B : Option Addr) (cb : Nat), Hid (ys = b ++ lowB x j) ∧ v = .slice B ys.length cb ∧ i = .int .i64 (j : Int) ∧ j ≤ many8 n ∧ 8 < j + g ∧ OwnI w' w.heap.size 5 .u8 B cb ys ∧ Below w.heap.size w w')
  case atStart => exact ⟨0, b, B2, c2, by show _ = _; simp [lowB], rfl, rfl, by omega, by omega, hown2, hB2⟩
  case round =>
    clear hown2 hB2
    obtain ⟨j, ys, B, cb, hys, rfl, rfl, hj, hg, hown, hB⟩ := hrel
    have hylen : ys.length = b.length + j := by rw [hys.out]; simp [lowB]
    have hyl : ys.length ≤ b.length + j := by omega
    clear hylen
    have hm8 := many8_le n
    by_cases hlt : j < many8 n
    · have hlt2 : (j : Int) < min (max n 0) 8 := by unfold many8 at hlt; omega
      go_wp2_with (at_builtin; refine (app_one w.heap.size rfl _ _ 25 5 .u8 1 rfl Try.underlying25 (by kernel_rfl) (by decide) B cb ys _ rfl rfl hown hB.size (by omega) ?_))
      intro B1 c1 w1 h1 h2 _
      have hB1 := below_grown hB h2 hown (Nat.le_refl _)
      have hys1 : Hid (ys ++ [x / 2 ^ (8 * j) % 256] = b ++ lowB x (j + 1)) := by show _ = _; rw [lowB_succ, hys.out, List.append_assoc]
      clear h2 hown hB
      go_wp2
      go_roundg (gk - 1)
      case measure => omega
      case rel => exact ⟨j + 1, _, B1, c1, hys1, by simp, by simp, by omega, by omega, h1, hB1⟩
    · have hlt2 : decide ((j : Int) < min (max n 0) 8) = false := by unfold many8 at hlt; simp; omega
      have e : j = many8 n := by omega
      have H := Lib.hid (show ys = b ++ lowB x (many8 n) from e ▸ hys.out)
      clear e
      go_wp2
      go_ret
      have h := H.out
      subst h
      exact RetOwn.mk rfl hown hB
theorem Put_is (A : Option Addr) (c : Nat) (b : List Int) (x n : Int) (w : World) (h : SlI w .u8 A c b) (hl : b.length ≤ 140737488355320) (zs : List Int) (hz : Hid (b ++ lowB x (many8 n) = zs)) :
    Calls Try.prog 57 #[.slice A b.length c, .int .u64 x, .int .i64 n] w fun e w' => RetOwn 5 .u8 zs w e w' := hz.out ▸ Put_calls A c b x n w h hl
set_option maxHeartbeats 400000 in
theorem RPut_calls (A : Option Addr) (c : Nat) (b : List Int) (x n : Int) (w : World) (h : SlI w .u8 A c b) (hl : b.length ≤ 140737488355320) :
    Calls Try.prog 53 #[.slice A b.length c, .int .u64 x, .int .i64 n] w fun e w' => RetOwn 5 .u8 (b ++ lowB x (many8 n)) w e w' := by
  have hm := h.len
  go_enter Try.func53, Try.ntmps53
  go_wp2_with (at_builtin; refine app_row w.heap.size rfl _ _ 25 5 .u8 1 rfl Try.underlying25 (by kernel_rfl) (by decide) _ _ [] b A c rfl rfl (own_empty _ _ _ (Nat.le_refl _)) (h.below (below_alloc (Below.refl _ _) _)).rd (by simp) (by simp; omega) ?_)
  intro B2 c2 w2 hown2 hg2 _ _
  have hB2 := below_grown (below_alloc (Below.refl _ _) _) hg2 (own_empty _ _ _ (Nat.le_refl _)) (Nat.le_refl _)
  clear hg2
  go_wp2
  go_loopg [7, 8] 9 (fun g v i w' => ∃ (j : Nat) (ys : List Int) (B : Option Addr) (cb : Nat), Hid (ys = b ++ lowB x j) ∧ v = .slice B ys.length cb ∧ i = .int .i64 (j : Int) ∧ j ≤ many8 n ∧ 8 < j + g ∧ OwnI w' w.heap.size 5 .u8 B cb ys ∧ Below w.heap.size w w')
  case atStart => exact ⟨0, b, B2, c2, by show _ = _; simp [lowB], rfl, rfl, by omega, by omega, hown2, hB2⟩
  case round =>
    clear hown2 hB2
    obtain ⟨j, ys, B, cb, hys, rfl, rfl, hj, hg, hown, hB⟩ := hrel
    have hylen : ys.length = b.length + j := by rw [hys.out]; simp [lowB]
    have hyl : ys.length ≤ b.length + j := by omega
    clear hylen
    have hm8 := many8_le n
    by_cases hlt : j < many8 n
    · have hlt2 : (j : Int) < n := by unfold many8 at hlt; omega
      have hlt3 : (j : Int) < 8 := by unfold many8 at hlt; omega
      go_wp2_with (at_builtin; refine (app_one w.heap.size rfl _ _ 25 5 .u8 1 rfl Try.underlying25 (by kernel_rfl) (by decide) B cb ys _ rfl rfl hown hB.size (by omega) ?_))
      intro B1 c1 w1 h1 h2 _
      have hB1 := below_grown hB h2 hown (Nat.le_refl _)
      have hys1 : Hid (ys ++ [x / 2 ^ (8 * j) % 256] = b ++ lowB x (j + 1)) := by show _ = _; rw [lowB_succ, hys.out, List.append_assoc]
      clear h2 hown hB
      go_wp2
      go_roundg (gk - 1)
      case measure => omega
      case rel => exact ⟨j + 1, _, B1, c1, hys1, by simp, by simp, by omega, by omega, h1, hB1⟩
    · have e : j = many8 n := by omega
      have H := Lib.hid (show ys = b ++ lowB x (many8 n) from e ▸ hys.out)
      clear e
      by_cases hjn : (j : Int) < n
      · have hlt3 : ¬ (j : Int) < 8 := by unfold many8 at hlt; omega
        go_wp2
        go_ret
        have h := H.out
        subst h
        exact RetOwn.mk rfl hown hB
      · go_wp2
        go_ret
        have h := H.out
        subst h
        exact RetOwn.mk rfl hown hB
theorem RPut_is (A : Option Addr) (c : Nat) (b : List Int) (x n : Int) (w : World) (h : SlI w .u8 A c b) (hl : b.length ≤ 140737488355320) (zs : List Int) (hz : Hid (b ++ lowB x (many8 n) = zs)) :
    Calls Try.prog 53 #[.slice A b.length c, .int .u64 x, .int .i64 n] w fun e w' => RetOwn 5 .u8 zs w e w' := hz.out ▸ RPut_calls A c b x n w h hl
theorem ofB_take_succ (b : List Int) (j : Nat) (h : j < b.length) : ofB (b.take (j + 1)) = ofB (b.take j) + b.getD j 0 * 2 ^ (8 * j) := by
  induction b generalizing j with
  | nil => simp at h
  | cons x b ih =>
    cases j with
    | zero => simp [ofB]
    | succ j =>
      simp only [List.take_succ_cons, ofB, List.getD_cons_succ]
      rw [ih j (by simpa using h), show 8 * (j + 1) = 8 * j + 8 by omega, Int.pow_add]
      grind
theorem ofB_nonneg (b : List Int) (h : ∀ x ∈ b, 0 ≤ x) : 0 ≤ ofB b := by
  induction b with
  | nil => simp [ofB]
  | cons x b ih =>
    have := ih fun y hy => h y (List.mem_cons_of_mem _ hy)
    have := h x (List.mem_cons_self ..)
    unfold ofB; omega
theorem ofB_lt (b : List Int) (h : ∀ x ∈ b, 0 ≤ x ∧ x ≤ 255) : ofB b < 2 ^ (8 * b.length) := by
  induction b with
  | nil => simp [ofB]
  | cons x b ih =>
    have h1 := ih fun y hy => h y (List.mem_cons_of_mem _ hy)
    have h2 := h x (List.mem_cons_self ..)
    rw [List.length_cons, show 8 * (b.length + 1) = 8 * b.length + 8 by omega, Int.pow_add]
    unfold ofB; omega
/-- All are bytes. -/
def Bytes (b : List Int) : Prop := ∀ x ∈ b, 0 ≤ x ∧ x ≤ 255
theorem Bytes.at {b : List Int} (h : Bytes b) (j : Nat) : 0 ≤ b.getD j 0 ∧ b.getD j 0 ≤ 255 := by
  rcases Nat.lt_or_ge j b.length with hj | hj
  · simp only [List.getD_eq_getElem?_getD, List.getElem?_eq_getElem hj, Option.getD_some]; exact h _ (List.getElem_mem hj)
  · simp [List.getD_eq_getElem?_getD, List.getElem?_eq_none hj]
theorem Bytes.take {b : List Int} (h : Bytes b) (j : Nat) : Bytes (b.take j) := fun x hx => h x (List.mem_of_mem_take hx)
theorem pow8 {j : Nat} (hj : j < 8) : (1 : Int) ≤ 2 ^ (8 * j) ∧ (2 : Int) ^ (8 * j) ≤ 72057594037927936 := by
  have h1 : j = 0 ∨ j = 1 ∨ j = 2 ∨ j = 3 ∨ j = 4 ∨ j = 5 ∨ j = 6 ∨ j = 7 := by omega
  rcases h1 with rfl | rfl | rfl | rfl | rfl | rfl | rfl | rfl <;> decide
theorem shl_byte {b : Int} {j : Nat} (hj : j < 8) (b0 : 0 ≤ b) (b1 : b ≤ 255) : IntKind.u64.wrap (IntKind.u64.wrap b * 2 ^ (8 * j)) = b * 2 ^ (8 * j) ∧ 0 ≤ b * 2 ^ (8 * j) ∧ b * 2 ^ (8 * j) ≤ 18374686479671623680 := by
  obtain ⟨p0, p1⟩ := pow8 hj
  have h1 : 0 ≤ b * 2 ^ (8 * j) := Int.mul_nonneg b0 (by omega)
  have h2 : b * 2 ^ (8 * j) ≤ 255 * 72057594037927936 := Int.mul_le_mul b1 p1 (by omega) (by omega)
  rw [IntKind.wrap_u64, IntKind.wrap_u64, Int.emod_eq_of_lt b0 (by omega), Int.emod_eq_of_lt h1 (by omega)]
  exact ⟨rfl, h1, by omega⟩
theorem or_shift {x b : Int} {j : Nat} (hj : j < 8) (x0 : 0 ≤ x) (x1 : x < 2 ^ (8 * j)) (b0 : 0 ≤ b) (b1 : b ≤ 255) : bits .or .u64 x (IntKind.u64.wrap (IntKind.u64.wrap b * 2 ^ (8 * j))) = x + b * 2 ^ (8 * j) := by
  obtain ⟨p0, p1⟩ := pow8 hj
  obtain ⟨e1, e2, e3⟩ := shl_byte hj b0 b1
  rw [e1, u64_or x (b * 2 ^ (8 * j)) x0 (by omega) e2 (by omega)]
  obtain ⟨x, rfl⟩ := Int.eq_ofNat_of_zero_le x0
  obtain ⟨b, rfl⟩ := Int.eq_ofNat_of_zero_le b0
  have hx : x < 2 ^ (8 * j) := by exact_mod_cast x1
  have e4 : ((b : Int) * 2 ^ (8 * j)).toNat = 2 ^ (8 * j) * b := by
    rw [show ((b : Int) * 2 ^ (8 * j)) = ((2 ^ (8 * j) * b : Nat) : Int) by push_cast; rw [Int.mul_comm]]; rfl
  rw [Int.toNat_natCast, e4, Nat.or_comm, ← Nat.two_pow_add_eq_or_of_lt hx]
  push_cast
  rw [Int.mul_comm]; omega
set_option maxHeartbeats 400000 in
theorem Of_calls (A : Option Addr) (c : Nat) (b : List Int) (w : World) (h : SlI w .u8 A c b) (hb : Bytes b) :
    Calls Try.prog 59 #[.slice A b.length c] w fun e w' => e = .returned (.int .u64 (ofB (b.take 8))) ∧ w = w' := by
  have hm := h.len
  go_enter Try.func59, Try.ntmps59
  go_wp2
  go_loopg [2, 7] 9 (fun g v i w' => ∃ (j : Nat) (x : Int), v = .int .u64 x ∧ i = .int .i64 (j : Int) ∧ Hid (x = ofB (b.take j)) ∧ j ≤ 8 ∧ j ≤ b.length ∧ 8 < j + g ∧ w = w')
  case atStart => exact ⟨0, 0, rfl, rfl, by show _ = _; simp [ofB], by omega, by omega, by omega, rfl⟩
  case round =>
    obtain ⟨j, x, rfl, rfl, hx, hj8, hj, hg, rfl⟩ := hrel
    by_cases hlt : j < 8 ∧ j < b.length
    · obtain ⟨ad, rfl, hc⟩ := h.get j hlt.2
      have hlt1 := hlt.2
      have hlt2 : (j : Int) < min (b.length : Int) 8 := by omega
      have hbj := hb.at j
      have x0 : 0 ≤ x := by rw [hx.out]; exact ofB_nonneg _ fun y hy => (hb.take j y hy).1
      have x1 : x < 2 ^ (8 * j) := by
        have := ofB_lt _ (hb.take j)
        rw [List.length_take, Nat.min_eq_left hj] at this
        rw [hx.out]; exact this
      have e1 := or_shift hlt.1 x0 x1 hbj.1 hbj.2
      have HX : Hid (x + b.getD j 0 * 2 ^ (8 * j) = ofB (b.take (j + 1))) := by show _ = _; rw [ofB_take_succ b j hlt.2, hx.out]
      simp only [List.getD_eq_getElem?_getD, List.getElem?_eq_getElem hlt1, Option.getD_some] at e1 HX
      go_wp2
      go_roundg (gk - 1)
      case measure => omega
      case rel => exact ⟨j + 1, _, rfl, by simp, HX, by omega, by omega, by omega, rfl⟩
    · have hlt2 : decide ((j : Int) < min (b.length : Int) 8) = false := decide_eq_false (by omega)
      have H : Hid (x = ofB (b.take 8)) := by
        show _ = _
        rw [hx.out]
        by_cases h8 : j = 8
        · rw [h8]
        · rw [List.take_of_length_le (by omega), List.take_of_length_le (by omega)]
      go_wp2
      go_ret
      exact ⟨ret_int' H.out, rfl⟩
set_option maxHeartbeats 400000 in
theorem ROf_calls (A : Option Addr) (c : Nat) (b : List Int) (w : World) (h : SlI w .u8 A c b) (hb : Bytes b) :
    Calls Try.prog 67 #[.slice A b.length c] w fun e w' => e = .returned (.int .u64 (ofB (b.take 8))) ∧ w = w' := by
  have hm := h.len
  go_enter Try.func67, Try.ntmps67
  go_wp2
  go_loopg [3, 4] 9 (fun g v i w' => ∃ (j : Nat) (x : Int), v = .int .u64 x ∧ i = .int .i64 (j : Int) ∧ Hid (x = ofB (b.take j)) ∧ j ≤ 8 ∧ j ≤ b.length ∧ 8 < j + g ∧ w = w')
  case atStart => exact ⟨0, 0, rfl, rfl, by show _ = _; simp [ofB], by omega, by omega, by omega, rfl⟩
  case round =>
    obtain ⟨j, x, rfl, rfl, hx, hj8, hj, hg, rfl⟩ := hrel
    by_cases hlt : j < 8 ∧ j < b.length
    · obtain ⟨ad, rfl, hc⟩ := h.get j hlt.2
      have hlt1 := hlt.2
      have hlt3 := hlt.1
      have hlt2 : (j : Int) < (b.length : Int) := by omega
      have hlt4 : (j : Int) < 8 := by omega
      have hbj := hb.at j
      have x0 : 0 ≤ x := by rw [hx.out]; exact ofB_nonneg _ fun y hy => (hb.take j y hy).1
      have x1 : x ≤ 72057594037927935 := by
        have := ofB_lt _ (hb.take j)
        rw [List.length_take, Nat.min_eq_left hj] at this
        have := pow8 hlt3
        rw [hx.out]; omega
      obtain ⟨e1, e2, e3⟩ := shl_byte hlt.1 hbj.1 hbj.2
      have HX : Hid (x + b.getD j 0 * 2 ^ (8 * j) = ofB (b.take (j + 1))) := by show _ = _; rw [ofB_take_succ b j hlt.2, hx.out]
      simp only [List.getD_eq_getElem?_getD, List.getElem?_eq_getElem hlt1, Option.getD_some] at e1 HX e2 e3
      go_wp2
      go_roundg (gk - 1)
      case measure => omega
      case rel => exact ⟨j + 1, _, rfl, by simp, HX, by omega, by omega, by omega, rfl⟩
    · have H : Hid (x = ofB (b.take 8)) := by
        show _ = _
        rw [hx.out]
        by_cases h8 : j = 8
        · rw [h8]
        · rw [List.take_of_length_le (by omega), List.take_of_length_le (by omega)]
      by_cases h1 : (j : Int) < (b.length : Int)
      · have h2 : decide ((j : Int) < 8) = false := decide_eq_false (by omega)
        go_wp2
        go_ret
        exact ⟨ret_int' H.out, rfl⟩
      · have h2 : decide ((j : Int) < (b.length : Int)) = false := decide_eq_false h1
        go_wp2
        go_ret
        exact ⟨ret_int' H.out, rfl⟩
/-- The signed number of the low bytes. -/
def sgn8 (x n : Int) : Int :=
  if n < 1 then 0 else if n = 1 then (x + 128) % 256 - 128 else if n = 2 then (x + 32768) % 65536 - 32768 else if n = 3 then (x + 8388608) % 16777216 - 8388608
  else if n = 4 then (x + 2147483648) % 4294967296 - 2147483648 else if n = 5 then (x + 549755813888) % 1099511627776 - 549755813888
  else if n = 6 then (x + 140737488355328) % 281474976710656 - 140737488355328 else if n = 7 then (x + 36028797018963968) % 72057594037927936 - 36028797018963968
  else (x + 9223372036854775808) % 18446744073709551616 - 9223372036854775808
theorem sgn_cases {p : Int → Prop} (n : Int) (h0 : n < 1 → p n) (h1 : p 1) (h2 : p 2) (h3 : p 3) (h4 : p 4) (h5 : p 5) (h6 : p 6) (h7 : p 7) (h8 : 8 ≤ n → p n) : p n := by
  by_cases a : n < 1
  · exact h0 a
  by_cases b : 8 ≤ n
  · exact h8 b
  have : n = 1 ∨ n = 2 ∨ n = 3 ∨ n = 4 ∨ n = 5 ∨ n = 6 ∨ n = 7 := by omega
  rcases this with rfl | rfl | rfl | rfl | rfl | rfl | rfl <;> assumption
theorem signed_val (x n : Int) (hn : 1 ≤ n) :
    wrap64 (IntKind.u64.wrap (x * 2 ^ (8 * (8 - min n 8)).toNat)) / 2 ^ (8 * (8 - min n 8)).toNat = sgn8 x n := by
  refine sgn_cases (p := fun n => wrap64 (IntKind.u64.wrap (x * 2 ^ (8 * (8 - min n 8)).toNat)) / 2 ^ (8 * (8 - min n 8)).toNat = sgn8 x n) n (fun h => absurd h (by omega)) ?_ ?_ ?_ ?_ ?_ ?_ ?_ (fun h => ?_)
  · rw [show (8 * (8 - min (1 : Int) 8)).toNat = 56 from rfl, show (2 : Int) ^ 56 = 72057594037927936 from rfl, IntKind.wrap_u64]
    unfold wrap64 sgn8
    simp only [Int.reduceLT, Int.reduceEq, if_false, if_true]
    omega
  · rw [show (8 * (8 - min (2 : Int) 8)).toNat = 48 from rfl, show (2 : Int) ^ 48 = 281474976710656 from rfl, IntKind.wrap_u64]
    unfold wrap64 sgn8
    simp only [Int.reduceLT, Int.reduceEq, if_false, if_true]
    omega
  · rw [show (8 * (8 - min (3 : Int) 8)).toNat = 40 from rfl, show (2 : Int) ^ 40 = 1099511627776 from rfl, IntKind.wrap_u64]
    unfold wrap64 sgn8
    simp only [Int.reduceLT, Int.reduceEq, if_false, if_true]
    omega
  · rw [show (8 * (8 - min (4 : Int) 8)).toNat = 32 from rfl, show (2 : Int) ^ 32 = 4294967296 from rfl, IntKind.wrap_u64]
    unfold wrap64 sgn8
    simp only [Int.reduceLT, Int.reduceEq, if_false, if_true]
    omega
  · rw [show (8 * (8 - min (5 : Int) 8)).toNat = 24 from rfl, show (2 : Int) ^ 24 = 16777216 from rfl, IntKind.wrap_u64]
    unfold wrap64 sgn8
    simp only [Int.reduceLT, Int.reduceEq, if_false, if_true]
    omega
  · rw [show (8 * (8 - min (6 : Int) 8)).toNat = 16 from rfl, show (2 : Int) ^ 16 = 65536 from rfl, IntKind.wrap_u64]
    unfold wrap64 sgn8
    simp only [Int.reduceLT, Int.reduceEq, if_false, if_true]
    omega
  · rw [show (8 * (8 - min (7 : Int) 8)).toNat = 8 from rfl, show (2 : Int) ^ 8 = 256 from rfl, IntKind.wrap_u64]
    unfold wrap64 sgn8
    simp only [Int.reduceLT, Int.reduceEq, if_false, if_true]
    omega
  · have e : (8 * (8 - min n 8)).toNat = 0 := by omega
    rw [e, show (2 : Int) ^ 0 = 1 from rfl, IntKind.wrap_u64]
    unfold wrap64 sgn8
    rw [if_neg (by omega), if_neg (by omega), if_neg (by omega), if_neg (by omega), if_neg (by omega), if_neg (by omega), if_neg (by omega), if_neg (by omega)]
    omega
theorem Signed_calls (x n : Int) (w : World) (x0 : 0 ≤ x) (x1 : x ≤ 18446744073709551615) :
    Calls Try.prog 81 #[.int .u64 x, .int .i64 n] w fun e w' => e = .returned (.int .i64 (sgn8 x n)) ∧ w = w' := by
  by_cases hn : n < 1
  · go_enter Try.func81, Try.ntmps81
    go_wp2
    go_ret
    exact ⟨ret_int' (by rw [sgn8, if_pos hn]), rfl⟩
  · have H := Lib.hid (signed_val x n (by omega))
    have k0 : 0 ≤ 8 * (8 - min n 8) := by omega
    have k1 : 8 * (8 - min n 8) ≤ 56 := by omega
    go_enter Try.func81, Try.ntmps81
    go_wp2
    go_ret
    exact ⟨ret_int' H.out, rfl⟩
theorem RSigned_calls (x n : Int) (w : World) (x0 : 0 ≤ x) (x1 : x ≤ 18446744073709551615) :
    Calls Try.prog 69 #[.int .u64 x, .int .i64 n] w fun e w' => e = .returned (.int .i64 (sgn8 x n)) ∧ w = w' := by
  refine sgn_cases (p := fun n => Calls Try.prog 69 #[.int .u64 x, .int .i64 n] w fun e w' => e = .returned (.int .i64 (sgn8 x n)) ∧ w = w') n (fun hn => ?_) ?_ ?_ ?_ ?_ ?_ ?_ ?_ (fun hn => ?_)
  · go_enter Try.func69, Try.ntmps69
    go_wp2
    go_ret
    exact ⟨ret_int' (by rw [sgn8, if_pos hn]), rfl⟩
  · go_enter Try.func69, Try.ntmps69
    go_wp2
    all_goals
      go_ret
      exact ⟨ret_int' (by unfold sgn8; try unfold wrap64
                          simp only [Int.reduceLT, Int.reduceEq, if_false, if_true]; omega), rfl⟩
  · go_enter Try.func69, Try.ntmps69
    go_wp2
    all_goals
      go_ret
      exact ⟨ret_int' (by unfold sgn8; try unfold wrap64
                          simp only [Int.reduceLT, Int.reduceEq, if_false, if_true]; omega), rfl⟩
  · go_enter Try.func69, Try.ntmps69
    go_wp2
    all_goals
      go_ret
      exact ⟨ret_int' (by unfold sgn8; try unfold wrap64
                          simp only [Int.reduceLT, Int.reduceEq, if_false, if_true]; omega), rfl⟩
  · go_enter Try.func69, Try.ntmps69
    go_wp2
    all_goals
      go_ret
      exact ⟨ret_int' (by unfold sgn8; try unfold wrap64
                          simp only [Int.reduceLT, Int.reduceEq, if_false, if_true]; omega), rfl⟩
  · go_enter Try.func69, Try.ntmps69
    go_wp2
    all_goals
      go_ret
      exact ⟨ret_int' (by unfold sgn8; try unfold wrap64
                          simp only [Int.reduceLT, Int.reduceEq, if_false, if_true]; omega), rfl⟩
  · go_enter Try.func69, Try.ntmps69
    go_wp2
    all_goals
      go_ret
      exact ⟨ret_int' (by unfold sgn8; try unfold wrap64
                          simp only [Int.reduceLT, Int.reduceEq, if_false, if_true]; omega), rfl⟩
  · go_enter Try.func69, Try.ntmps69
    go_wp2
    all_goals
      go_ret
      exact ⟨ret_int' (by unfold sgn8; try unfold wrap64
                          simp only [Int.reduceLT, Int.reduceEq, if_false, if_true]; omega), rfl⟩
  · go_enter Try.func69, Try.ntmps69
    go_wp2
    go_ret
    refine ⟨ret_int' ?_, rfl⟩
    unfold sgn8
    rw [if_neg (by omega), if_neg (by omega), if_neg (by omega), if_neg (by omega), if_neg (by omega), if_neg (by omega), if_neg (by omega), if_neg (by omega)]
    unfold wrap64
    rfl
end Go.Proofs.Ytjdablkdndmcgaa
