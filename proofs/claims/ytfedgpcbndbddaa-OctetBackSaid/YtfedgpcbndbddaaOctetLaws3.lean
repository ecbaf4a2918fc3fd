import Derived.Test.YtfedgpcbndbddaaOctetLaws2
namespace Go.Proofs.Ytfedgpcbndbddaa
set_option linter.unusedVariables false
set_option linter.unusedSimpArgs false
open Go.RowKit
theorem lowB_cons (x : Int) (m : Nat) : lowB x (m + 1) = x % 256 :: lowB (x / 256) m := by
  unfold lowB
  rw [List.range_succ_eq_map, List.map_cons, List.map_map]
  congr 1
  · simp
  · apply List.map_congr_left
    intro i _
    simp only [Function.comp]
    rw [show 8 * (i + 1) = 8 + 8 * i by omega, Int.pow_add, ← Int.ediv_ediv_of_nonneg (by decide)]
    rfl
theorem lowB_ofB (l : List Int) (h : Bytes l) : lowB (ofB l) l.length = l := by
  induction l with
  | nil => simp [lowB]
  | cons x l ih =>
    have h1 := h x (List.mem_cons_self ..)
    have h2 := ih fun y hy => h y (List.mem_cons_of_mem _ hy)
    rw [List.length_cons, lowB_cons]
    have e0 : ofB (x :: l) = x + 256 * ofB l := rfl
    have e1 : ofB (x :: l) % 256 = x := by omega
    have e2 : ofB (x :: l) / 256 = ofB l := by omega
    rw [e1, e2, h2]
theorem ofB_append (a b : List Int) : ofB (a ++ b) = ofB a + ofB b * 2 ^ (8 * a.length) := by
  induction a with
  | nil => simp [ofB]
  | cons x a ih =>
    rw [List.cons_append, ofB, ih, ofB, List.length_cons, show 8 * (a.length + 1) = 8 + 8 * a.length by omega, Int.pow_add]
    have : (2 : Int) ^ 8 = 256 := by decide
    rw [this]; grind
/-- What OctetSplit reads, of lists alone: too few bytes. -/
theorem tk_zero (b : List Int) (n : Int) (h0 : 0 ≤ n) (h1 : n ≤ 8) (h2 : (b.length : Int) < n) : tk b 0 n 8 = ([], b, 5) := by
  unfold tk; rw [if_neg (by simp), if_neg (by omega), if_pos (by omega)]
theorem tk_some (b : List Int) (n : Nat) (h1 : n ≤ 8) (h2 : n ≤ b.length) : tk b 0 (n : Int) 8 = (b.take n, b.drop n, 0) := by
  unfold tk; rw [if_neg (by simp), if_neg (by omega), if_neg (by omega), Int.toNat_natCast]
theorem tk_err (b : List Int) (e n : Int) (h : e ≠ 0) : tk b e n 8 = ([], b, e) := by unfold tk; rw [if_pos h]
theorem Put_ofB (w : World) (A : Option Addr) (c : Nat) (a l : List Int) (m : Int) (hm : m = l.length) (h8 : l.length ≤ 8) (ha : a.length ≤ 8) (h : SlI w .u8 A c a) (hl : Bytes l) (x : Int) (hx : Hid (ofB l = x)) (zs : List Int) (hz : Hid (a ++ l = zs)) :
    Calls Try.prog 12 #[.slice A a.length c, .int .u64 x, .int .i64 m] w fun e w' => RetOwn 5 .u8 zs w e w' := by
  refine Put_is A c a x m w h (by omega) zs ?_
  show _ = _
  rw [← hz.out, hm, ← hx.out, show many8 (l.length : Int) = l.length by unfold many8; omega, lowB_ofB l hl]
/-- Behind the picks: n + m ≤ 8, too few bytes. -/
theorem split_few (A : Option Addr) (c : Nat) (b : List Int) (n0 m0 : Int) (n m : Nat) (w : World) (h : SlI w .u8 A c b) (hb : Bytes b) (hl : b.length ≤ 200) (hn : Hid (n0 % 9 = n)) (hm : Hid (m0 % (9 - (n : Int)) = m)) (h8 : n + m ≤ 8) (hf : b.length < n + m) :
    Calls Try.prog 5 #[.slice A b.length c, .int .i64 n0, .int .i64 m0] w fun e w' => e = .returned (.bool true) ∧ Below w.heap.size w w' := by
  have hm63 := h.len
  have hf2 : (b.length : Int) < (n : Int) + m := by omega
  have hl2 : ¬ (b.length : Int) > 200 := by omega
  have p9 : ∀ w, Calls Try.prog 21 #[.int .i64 n0, .int .i64 9] w fun e w' => e = .returned (.int .i64 n) ∧ w = w' := fun w => hn.out ▸ Pick_calls n0 9 w (by decide) (by decide)
  have p8 : ∀ w, Calls Try.prog 21 #[.int .i64 m0, .int .i64 (9 - (n : Int))] w fun e w' => e = .returned (.int .i64 m) ∧ w = w' := fun w => hm.out ▸ Pick_calls m0 (9 - (n : Int)) w (by omega) (by omega)
  have P9 := Lib.hid p9
  have P8 := Lib.hid p8
  clear p9 p8
  go_enter Try.func5, Try.ntmps5
  go_wp2_with fail
  refine (lives_calls _).mono ?_
  rintro e w1 ⟨rfl, b1⟩
  go_wp2_with fail
  refine (P9.out _).mono ?_
  rintro e w2 ⟨rfl, rfl⟩
  go_wp2_with fail
  refine (P8.out _).mono ?_
  rintro e w2 ⟨rfl, rfl⟩
  go_wp2_with fail
  refine (New_calls A c b _ (h.below b1) (by omega)).mono ?_
  rintro e w2 ⟨p, rfl, p0, p1, r2, b2⟩
  have b02 := below_trans b1 b2
  have pw : w.heap.size ≤ p := Nat.le_trans b1.size p0
  clear b2
  go_wp2_with fail
  refine (New_calls A c b _ (h.below b02) (by omega)).mono ?_
  rintro e w3 ⟨q, rfl, q0, q1, s3, b3⟩
  have r3 := r2.below b3
  have b03 := below_trans b02 b3
  have qw : w.heap.size ≤ q := Nat.le_trans b02.size q0
  clear b3 r2 b1 b02
  go_wp2_with fail
  refine (Number_calls _ p b 0 _ _ r3 hb [] b 5 (Lib.hid (tk_zero b _ (by omega) (by omega) hf2)) 0 (Lib.hid (by decide))).mono ?_
  rintro e w4 ⟨rfl, r4, g4⟩
  have s4 := s3.grown g4 (.inl (by omega)) q0
  have b04 := below_grown_p b03 g4 pw
  clear b03 r3 s3 g4
  go_wp2_with fail
  by_cases hbn : b.length < n
  · refine (Number_calls _ q b 0 _ _ s4 hb [] b 5 (Lib.hid (tk_zero b _ (by omega) (by omega) (by omega))) 0 (Lib.hid (by decide))).mono ?_
    rintro e w5 ⟨rfl, s5, g5⟩
    have r5 := r4.grown g5 (.inr (by omega)) p0
    have b05 := below_grown_p b04 g5 qw
    clear b04 r4 s4 g5
    go_wp2_with fail
    refine (Number_calls _ q b 5 _ _ s5 hb [] b 5 (Lib.hid (tk_err b 5 _ (by decide))) 0 (Lib.hid (by decide))).mono ?_
    rintro e w6 ⟨rfl, s6, g6⟩
    have r6 := r5.grown g6 (.inr (by omega)) p0
    have b06 := below_grown_p b05 g6 qw
    clear b05 r5 s5 g6
    go_wp2_with fail
    refine (Err_calls _ p b 5 _ r6).mono ?_
    rintro en w' ⟨rfl, rfl⟩
    go_wp2_with fail
    refine (Err_calls _ q b 5 _ s6).mono ?_
    rintro en w' ⟨rfl, rfl⟩
    go_wp2_with fail
    refine (Left_calls _ p b 5 _ r6).mono ?_
    rintro en w' ⟨rfl, rfl⟩
    go_wp2_with fail
    go_ret
    exact ⟨rfl, b06⟩
  · refine (Number_calls _ q b 0 _ _ s4 hb (b.take n) (b.drop n) 0 (Lib.hid (tk_some b n (by omega) (by omega))) (ofB ((b.take n).take 8)) (Lib.hid rfl)).mono ?_
    rintro e w5 ⟨rfl, s5, g5⟩
    have r5 := r4.grown g5 (.inr (by omega)) p0
    have b05 := below_grown_p b04 g5 qw
    clear b04 r4 s4 g5
    go_wp2_with fail
    refine (Number_calls _ q (b.drop n) 0 _ _ s5 (fun x hx => hb x (List.mem_of_mem_drop hx)) [] (b.drop n) 5 (Lib.hid (tk_zero _ _ (by omega) (by omega) (by simp; omega))) 0 (Lib.hid (by decide))).mono ?_
    rintro e w6 ⟨rfl, s6, g6⟩
    have r6 := r5.grown g6 (.inr (by omega)) p0
    have b06 := below_grown_p b05 g6 qw
    clear b05 r5 s5 g6
    go_wp2_with fail
    refine (Err_calls _ p b 5 _ r6).mono ?_
    rintro en w' ⟨rfl, rfl⟩
    go_wp2_with fail
    refine (Err_calls _ q (b.drop n) 5 _ s6).mono ?_
    rintro en w' ⟨rfl, rfl⟩
    go_wp2_with fail
    refine (Left_calls _ p b 5 _ r6).mono ?_
    rintro en w' ⟨rfl, rfl⟩
    go_wp2_with fail
    go_ret
    exact ⟨rfl, b06⟩
/-- The numbers that are read. -/
theorem split_num (b : List Int) (n m : Nat) (hb : Bytes b) (hn : n + m ≤ b.length) :
    ofB (b.take (n + m)) = ofB (b.take n) + ofB ((b.drop n).take m) * 2 ^ (8 * n) := by
  rw [List.take_add, ofB_append, List.length_take, Nat.min_eq_left (by omega)]
theorem take8 (l : List Int) (n : Nat) (h : n ≤ 8) : (l.take n).take 8 = l.take n := by rw [List.take_take, Nat.min_eq_right h]
/-- Behind the picks: enough bytes, the first part less than 8. -/
theorem split_some (A : Option Addr) (c : Nat) (b : List Int) (n0 m0 : Int) (n m : Nat) (w : World) (h : SlI w .u8 A c b) (hb : Bytes b) (hl : b.length ≤ 200) (hn : Hid (n0 % 9 = n)) (hm : Hid (m0 % (9 - (n : Int)) = m)) (h8 : n + m ≤ 8) (hf : n + m ≤ b.length) (x y z : Int)
    (hx : Hid (ofB (b.take (n + m)) = x)) (hy : Hid (ofB (b.take n) = y)) (hz : Hid (ofB ((b.drop n).take m) = z)) :
    Calls Try.prog 5 #[.slice A b.length c, .int .i64 n0, .int .i64 m0] w fun e w' => e = .returned (.bool true) ∧ Below w.heap.size w w' := by
  have hm63 := h.len
  have hf2 : ¬ (b.length : Int) < (n : Int) + m := by omega
  have hl2 : ¬ (b.length : Int) > 200 := by omega
  have p9 : ∀ w, Calls Try.prog 21 #[.int .i64 n0, .int .i64 9] w fun e w' => e = .returned (.int .i64 n) ∧ w = w' := fun w => hn.out ▸ Pick_calls n0 9 w (by decide) (by decide)
  have p8 : ∀ w, Calls Try.prog 21 #[.int .i64 m0, .int .i64 (9 - (n : Int))] w fun e w' => e = .returned (.int .i64 m) ∧ w = w' := fun w => hm.out ▸ Pick_calls m0 (9 - (n : Int)) w (by omega) (by omega)
  have P9 := Lib.hid p9
  have P8 := Lib.hid p8
  clear p9 p8
  have hbd : Bytes (b.drop n) := fun x hx => hb x (List.mem_of_mem_drop hx)
  have T1 : Hid (tk b 0 ((n : Int) + (m : Int)) 8 = (b.take (n + m), b.drop (n + m), 0)) := by
    have := tk_some b (n + m) h8 hf
    rwa [Int.natCast_add] at this
  have T3 : Hid (tk (b.drop n) 0 (m : Int) 8 = ((b.drop n).take m, b.drop (n + m), 0)) := by
    have := tk_some (b.drop n) m (by omega) (by simp; omega)
    rwa [List.drop_drop] at this
  have V1 : Hid (ofB ((b.take (n + m)).take 8) = x) := by show _ = _; rw [take8 _ _ h8]; exact hx.out
  have V2 : Hid (ofB ((b.take n).take 8) = y) := by show _ = _; rw [take8 _ _ (by omega)]; exact hy.out
  have V3 : Hid (ofB (((b.drop n).take m).take 8) = z) := by show _ = _; rw [take8 _ _ (by omega)]; exact hz.out
  have hL : ((b.drop (n + m)).length : Int) = (b.length : Int) - n - m := by simp; omega
  go_enter Try.func5, Try.ntmps5
  go_wp2_with fail
  refine (lives_calls _).mono ?_
  rintro e w1 ⟨rfl, b1⟩
  go_wp2_with fail
  refine (P9.out _).mono ?_
  rintro e w2 ⟨rfl, rfl⟩
  go_wp2_with fail
  refine (P8.out _).mono ?_
  rintro e w2 ⟨rfl, rfl⟩
  go_wp2_with fail
  refine (New_calls A c b _ (h.below b1) (by omega)).mono ?_
  rintro e w2 ⟨p, rfl, p0, p1, r2, b2⟩
  have b02 := below_trans b1 b2
  have pw : w.heap.size ≤ p := Nat.le_trans b1.size p0
  clear b2
  go_wp2_with fail
  refine (New_calls A c b _ (h.below b02) (by omega)).mono ?_
  rintro e w3 ⟨q, rfl, q0, q1, s3, b3⟩
  have r3 := r2.below b3
  have b03 := below_trans b02 b3
  have qw : w.heap.size ≤ q := Nat.le_trans b02.size q0
  clear b3 r2 b1 b02
  go_wp2_with fail
  refine (Number_calls _ p b 0 _ _ r3 hb _ _ 0 T1 x V1).mono ?_
  rintro e w4 ⟨rfl, r4, g4⟩
  have s4 := s3.grown g4 (.inl (by omega)) q0
  have b04 := below_grown_p b03 g4 pw
  clear b03 r3 s3 g4
  go_wp2_with fail
  refine (Number_calls _ q b 0 _ _ s4 hb _ _ 0 (Lib.hid (tk_some b n (by omega) (by omega))) y V2).mono ?_
  rintro e w5 ⟨rfl, s5, g5⟩
  have r5 := r4.grown g5 (.inr (by omega)) p0
  have b05 := below_grown_p b04 g5 qw
  clear b04 r4 s4 g5
  go_wp2_with fail
  refine (Number_calls _ q _ 0 _ _ s5 hbd _ _ 0 T3 z V3).mono ?_
  rintro e w6 ⟨rfl, s6, g6⟩
  have r6 := r5.grown g6 (.inr (by omega)) p0
  have b06 := below_grown_p b05 g6 qw
  clear b05 r5 s5 g6
  generalize hD : b.drop (n + m) = d at *
  by_cases hn8 : n = 8
  · have hm0 : m = 0 := by omega
    have exy : x = y := by rw [← hx.out, ← hy.out, hm0]; simp
    have ez : z = 0 := by rw [← hz.out, hm0]; simp [ofB]
    subst exy
    subst ez
    subst hn8
    clear hm0
    go_wp2_with fail
    go_ret
    exact ⟨rfl, b06⟩
  · have hn7 : n < 8 := by omega
    have hnb : ((n : Int) == 8) = false := by simpa using fun hh => hn8 (by omega)
    have z0 : 0 ≤ z := by rw [← hz.out]; exact ofB_nonneg _ fun y hy => (hbd.take m y hy).1
    have y0 : 0 ≤ y := by rw [← hy.out]; exact ofB_nonneg _ fun y hy => (hb.take n y hy).1
    have x0 : 0 ≤ x ∧ x ≤ 18446744073709551615 := by
      have := ofB8 (b.take (n + m)) (hb.take _)
      rw [V1.out] at this; exact this
    have exy : x = y + z * 2 ^ (8 * n) := by rw [← hx.out, ← hy.out, ← hz.out]; exact split_num b n m hb hf
    have k0 : 0 ≤ z * 2 ^ (8 * n) := Int.mul_nonneg z0 (by have := pow8 hn7; omega)
    have k1 : z * 2 ^ (8 * n) ≤ 18446744073709551615 := by omega
    have k2 : y + z * 2 ^ (8 * n) ≤ 18446744073709551615 := by omega
    have hxy : (x == y + z * 2 ^ (8 * n)) = true := beq_iff_eq.2 exy
    have HX := Lib.hid exy
    clear exy hn8
    go_wp2_with (first
      | (go_at_call 24; first | ((with_reducible refine (Left_calls _ p d 0 _ r6).mono ?_); rintro en w' ⟨rfl, rfl⟩) | ((with_reducible refine (Left_calls _ q d 0 _ s6).mono ?_); rintro en w' ⟨rfl, rfl⟩)))
    obtain ⟨t1, h1⟩ : ∃ t1, Hid (b.take n = t1) := ⟨_, Lib.hid rfl⟩
    obtain ⟨t2, h2⟩ : ∃ t2, Hid ((b.drop n).take m = t2) := ⟨_, Lib.hid rfl⟩
    obtain ⟨t3, h3⟩ : ∃ t3, Hid (b.take (n + m) = t3) := ⟨_, Lib.hid rfl⟩
    have l1 : (n : Int) = t1.length := by rw [← h1.out]; simp; omega
    have l2 : (m : Int) = t2.length := by rw [← h2.out]; simp; omega
    have l3 : t3.length ≤ 8 := by rw [← h3.out]; simp; omega
    have h123 : Hid (t1 ++ t2 = t3) := by show _ = _; rw [← h1.out, ← h2.out, ← h3.out, List.take_add]
    have y1 : Hid (ofB t1 = y) := by rw [← h1.out]; exact hy
    have z1 : Hid (ofB t2 = z) := by rw [← h2.out]; exact hz
    have x1 : ofB (t3.take 8) = x := by rw [List.take_of_length_le l3, ← h3.out]; exact hx.out
    have q1 : Bytes t1 := by rw [← h1.out]; exact hb.take n
    have q2 : Bytes t2 := by rw [← h2.out]; exact hbd.take m
    have q3 : Bytes t3 := by rw [← h3.out]; exact hb.take _
    have n1 : t1.length ≤ 8 := by omega
    have n2 : t2.length ≤ 8 := by omega
    refine (Put_ofB _ none 0 [] t1 n l1 n1 (by simp) (SlI.nil _ _) q1 y y1 t1 (Lib.hid rfl)).mono ?_
    rintro e w7 ⟨A7, c7, rfl, s7, b7⟩
    have b07 := below_trans b06 b7
    clear b7
    have L1 := Lib.hid l1
    have L2 := Lib.hid l2
    clear l1 l2
    go_wp2_with fail
    refine (Put_ofB _ A7 c7 t1 t2 m L2.out n2 n1 s7.sl q2 z z1 t3 h123).mono ?_
    rintro e w8 ⟨A8, c8, rfl, s8, b8⟩
    go_wp2_with fail
    refine (Of_is A8 c8 t3 _ s8.sl q3 x x1).mono ?_
    rintro en w' ⟨rfl, rfl⟩
    clear x1
    go_wp2_with fail
    go_ret
    exact ⟨rfl, below_trans b07 b8⟩
theorem OctetSplit_calls (A : Option Addr) (c : Nat) (b : List Int) (n0 m0 : Int) (w : World) (h : SlI w .u8 A c b) (hb : Bytes b) :
    Calls Try.prog 5 #[.slice A b.length c, .int .i64 n0, .int .i64 m0] w fun e w' => e = .returned (.bool true) ∧ Below w.heap.size w w' := by
  have hm63 := h.len
  by_cases hl : b.length > 200
  · have hl2 : (b.length : Int) > 200 := by omega
    go_enter Try.func5, Try.ntmps5
    go_wp2_with fail
    refine (lives_calls _).mono ?_
    rintro e w1 ⟨rfl, b1⟩
    go_wp2_with fail
    go_ret
    exact ⟨rfl, b1⟩
  · obtain ⟨n, hn⟩ := Int.eq_ofNat_of_zero_le (Int.emod_nonneg n0 (show (9 : Int) ≠ 0 by decide))
    have hn9 : n < 9 := by omega
    obtain ⟨m, hm⟩ := Int.eq_ofNat_of_zero_le (Int.emod_nonneg m0 (show (9 : Int) - n ≠ 0 by omega))
    have hm9 : (m : Int) < 9 - n := by rw [← hm]; exact Int.emod_lt_of_pos _ (by omega)
    by_cases hf : b.length < n + m
    · exact split_few A c b n0 m0 n m w h hb (by omega) hn hm (by omega) hf
    · exact split_some A c b n0 m0 n m w h hb (by omega) hn hm (by omega) (by omega) _ _ _ (Lib.hid rfl) (Lib.hid rfl) (Lib.hid rfl)
end Go.Proofs.Ytfedgpcbndbddaa
