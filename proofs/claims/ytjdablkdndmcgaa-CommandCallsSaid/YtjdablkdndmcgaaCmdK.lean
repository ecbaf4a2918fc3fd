/- CmdK: what Parse tells of a command's bytes, of more, of less. Plain lists. -/
import Derived.Test.YtjdablkdndmcgaaCmdX
import Derived.Test.YtjdablkdndmcgaaCmdB
namespace Go.Proofs.Ytjdablkdndmcgaa
set_option linter.unusedVariables false
set_option linter.unusedSimpArgs false
open Go.RowKit
theorem pow88 : (2 : Int) ^ (8 * 8) = 18446744073709551616 := by decide
theorem numP8 (x : Int) (rest : List Int) (h0 : 0 ≤ x) (h1 : x ≤ 18446744073709551615) : numP 8 (lowB x 8 ++ rest) 0 = (x, rest, 0) := by
  have h := numP_low 8 x rest (by decide) h0 (by rw [pow88]; omega)
  rw [show ((8 : Nat) : Int) = 8 from rfl] at h
  exact h
theorem numP2 (x : Int) (rest : List Int) (h0 : 0 ≤ x) (h1 : x ≤ 65535) : numP 2 (lowB x 2 ++ rest) 0 = (x, rest, 0) := by
  have h := numP_low 2 x rest (by decide) h0 (by rw [show (2 : Int) ^ (8 * 2) = 65536 by decide]; omega)
  rw [show ((2 : Nat) : Int) = 2 from rfl] at h
  exact h
theorem numP4 (x : Int) (rest : List Int) (h0 : 0 ≤ x) (h1 : x ≤ 4294967295) : numP 4 (lowB x 4 ++ rest) 0 = (x, rest, 0) := by
  have h := numP_low 4 x rest (by decide) h0 (by rw [show (2 : Int) ^ (8 * 4) = 4294967296 by decide]; omega)
  rw [show ((4 : Nat) : Int) = 4 from rfl] at h
  exact h
theorem numP1 (x : Int) (rest : List Int) : numP 1 (x :: rest) 0 = (x, rest, 0) := by
  have h := numP_at 1 [x] rest rfl (by decide)
  rw [ofB_one, show ((1 : Nat) : Int) = 1 from rfl] at h
  exact h
theorem sgnP2 (n : Int) (rest : List Int) (h0 : -32768 ≤ n) (h1 : n ≤ 32767) : sgnP 2 (lowB (IntKind.u64.wrap n) 2 ++ rest) 0 = (n, rest, 0) := by
  have e : IntKind.u64.wrap n = n % 18446744073709551616 := by simp [IntKind.wrap, IntKind.signed, IntKind.bits]
  have hl : lowB (IntKind.u64.wrap n) 2 = lowB (n % 65536) 2 := by
    rw [e]
    unfold lowB
    simp only [List.range_succ, List.range_zero, List.nil_append, List.map_append, List.map_cons, List.map_nil, List.cons_append]
    have a1 : n % 18446744073709551616 / 2 ^ (8 * 0) % 256 = n % 65536 / 2 ^ (8 * 0) % 256 := by
      rw [show (2 : Int) ^ (8 * 0) = 1 by decide]; omega
    have a2 : n % 18446744073709551616 / 2 ^ (8 * 1) % 256 = n % 65536 / 2 ^ (8 * 1) % 256 := by
      rw [show (2 : Int) ^ (8 * 1) = 256 by decide]; omega
    rw [a1, a2]
  unfold sgnP
  rw [hl, numP2 _ rest (by omega) (by omega)]
  dsimp only
  congr 1
  unfold sgn8
  rw [if_neg (by decide), if_neg (by decide), if_pos rfl]
  omega
theorem vecL_put (how : Nat) (hh : how ≤ 16) : ∀ (l v rest : List Int), (∀ n ∈ l, -32768 ≤ n ∧ n ≤ 32767) →
    vecL how l.length (l.flatMap (numB how) ++ rest) 0 false v = (rest, 0, false, v ++ l)
  | [], v, rest, _ => by simp [vecL]
  | n :: l, v, rest, hl => by
    obtain ⟨n0, n1⟩ := hl n (List.mem_cons_self ..)
    have hx : (n :: l).flatMap (numB how) ++ rest = numB how n ++ (l.flatMap (numB how) ++ rest) := by simp
    have hs : vecS how ((n :: l).flatMap (numB how) ++ rest) 0 v = (l.flatMap (numB how) ++ rest, 0, false, v ++ [n]) := by
      rw [hx]
      unfold vecS
      by_cases h0 : how = 0
      · subst h0
        rw [if_pos (show ((0 : Nat) : Int) = 0 from rfl)]
        unfold numB
        rw [if_pos rfl, sgnP2 n _ n0 n1]
      · rw [if_neg (by omega)]
        unfold numB
        rw [if_neg h0]
        have hb := ldx_lt n (how - 1) n0 n1
        have hf := fix_ldx n (how - 1) n0 n1 (by omega)
        rw [numP8 _ _ (by omega) (by omega)]
        dsimp only
        rw [show (how : Int) - 1 = ((how - 1 : Nat) : Int) by omega, hf]
        rfl
    have hst : vecL how (n :: l).length ((n :: l).flatMap (numB how) ++ rest) 0 false v = vecL how l.length (l.flatMap (numB how) ++ rest) 0 false (v ++ [n]) := by
      show (if false = true ∨ (0 : Int) ≠ 0 then _ else _) = _
      rw [if_neg (by simp), hs]
    rw [hst, vecL_put how hh l _ rest (fun y hy => hl y (List.mem_cons_of_mem _ hy))]
    simp
theorem drawL_put : ∀ (l d rest : List Int), (∀ n ∈ l, 0 ≤ n ∧ n ≤ 18446744073709551615) → drawL l.length (l.flatMap (fun y => lowB y 8) ++ rest) 0 d = (rest, 0, d ++ l)
  | [], d, rest, _ => by simp [drawL]
  | n :: l, d, rest, hl => by
    obtain ⟨n0, n1⟩ := hl n (List.mem_cons_self ..)
    have hx : (n :: l).flatMap (fun y => lowB y 8) ++ rest = lowB n 8 ++ (l.flatMap (fun y => lowB y 8) ++ rest) := by simp
    have hst : drawL (n :: l).length ((n :: l).flatMap (fun y => lowB y 8) ++ rest) 0 d = drawL l.length (l.flatMap (fun y => lowB y 8) ++ rest) 0 (d ++ [n]) := by
      show (if (0 : Int) ≠ 0 then _ else _) = _
      rw [if_neg (by simp), hx, numP8 n _ n0 n1]
    rw [hst, drawL_put l _ rest (fun y hy => hl y (List.mem_cons_of_mem _ hy))]
    simp
/-- All of it is read. -/
theorem iter_put (x : Cm) (how : Nat) (rest : List Int) (hok : cmOk x) (hx : CmB x) (hh : how ≤ 16) : iterR (putB x how ++ rest) 4 = ⟨rest, 0, false, x⟩ := by
  have hok' := hok
  unfold cmOk at hok'
  obtain ⟨⟨o1, o2⟩, oid, ov, ok, od⟩ := hok'
  obtain ⟨op, id, v, k, p, d⟩ := x
  dsimp only at *
  have e0 : startR (putB ⟨op, id, v, k, p, d⟩ how ++ rest) = ⟨idB ⟨op, id, v, k, p, d⟩ ++ (vecB ⟨op, id, v, k, p, d⟩ how ++ (kB ⟨op, id, v, k, p, d⟩ ++ (dB ⟨op, id, v, k, p, d⟩ ++ rest))), 0, false, ⟨op, 0, [], 0, 0, []⟩⟩ := by
    have h := numP1 op (idB ⟨op, id, v, k, p, d⟩ ++ (vecB ⟨op, id, v, k, p, d⟩ how ++ (kB ⟨op, id, v, k, p, d⟩ ++ (dB ⟨op, id, v, k, p, d⟩ ++ rest))))
    have e : putB ⟨op, id, v, k, p, d⟩ how ++ rest = op :: (idB ⟨op, id, v, k, p, d⟩ ++ (vecB ⟨op, id, v, k, p, d⟩ how ++ (kB ⟨op, id, v, k, p, d⟩ ++ (dB ⟨op, id, v, k, p, d⟩ ++ rest)))) := by simp [putB]
    rw [← e] at h
    unfold startR
    rw [h]
  have e1 : iterR (putB ⟨op, id, v, k, p, d⟩ how ++ rest) 1 = ⟨vecB ⟨op, id, v, k, p, d⟩ how ++ (kB ⟨op, id, v, k, p, d⟩ ++ (dB ⟨op, id, v, k, p, d⟩ ++ rest)), 0, false, ⟨op, id, [], 0, 0, []⟩⟩ := by
    show stepR 0 (startR _) = _
    rw [e0]
    cases h : hasN op 1 with
    | true =>
      refine (step0 ?_).trans ?_
      · exact h
      have hid : 1 ≤ id := by rw [has_id] at h; simp at h; rw [if_pos (by omega)] at oid; exact oid
      have hi2 : id ≤ 9223372036854775807 := hx.id
      unfold idR idB
      dsimp only
      rw [h, if_pos rfl, sgnP_low id _ (by omega) (by omega)]
    | false =>
      refine (step0n ?_).trans ?_
      · exact h
      have hid : id = 0 := by rw [has_id] at h; simp at h; rw [if_neg (by omega)] at oid; exact oid
      unfold idB
      dsimp only
      rw [h, if_neg (by decide), hid]; rfl
  have e2 : iterR (putB ⟨op, id, v, k, p, d⟩ how ++ rest) 2 = ⟨kB ⟨op, id, v, k, p, d⟩ ++ (dB ⟨op, id, v, k, p, d⟩ ++ rest), 0, false, ⟨op, id, v, 0, 0, []⟩⟩ := by
    show stepR 1 (iterR _ 1) = _
    rw [e1]
    cases h : hasN op 2 with
    | true =>
      refine (step1 ?_).trans ?_
      · exact h
      have hl : 1 ≤ v.length ∧ v.length ≤ 1024 := by rw [has_vec] at h; simp at h; rw [if_pos (by omega)] at ov; exact ov
      have hv : vecP (vecB ⟨op, id, v, k, p, d⟩ how ++ (kB ⟨op, id, v, k, p, d⟩ ++ (dB ⟨op, id, v, k, p, d⟩ ++ rest))) 0 false = (kB ⟨op, id, v, k, p, d⟩ ++ (dB ⟨op, id, v, k, p, d⟩ ++ rest), 0, false, v) := by
        have e : vecB ⟨op, id, v, k, p, d⟩ how ++ (kB ⟨op, id, v, k, p, d⟩ ++ (dB ⟨op, id, v, k, p, d⟩ ++ rest)) = (how : Int) :: (lowB v.length 2 ++ (v.flatMap (numB how) ++ (kB ⟨op, id, v, k, p, d⟩ ++ (dB ⟨op, id, v, k, p, d⟩ ++ rest)))) := by
          unfold vecB; dsimp only; rw [h, if_pos rfl]; simp
        rw [e]
        unfold vecP
        rw [numP1]
        dsimp only
        rw [numP2 _ _ (by omega) (by omega)]
        dsimp only
        rw [decide_eq_false (show ¬ 16 < (how : Int) by omega), decide_eq_false (show ¬ (v.length : Int) < 1 by omega), decide_eq_false (show ¬ 1024 < (v.length : Int) by omega), show ((v.length : Int)).toNat = v.length from rfl]
        have := vecL_put how hh v [] (kB ⟨op, id, v, k, p, d⟩ ++ (dB ⟨op, id, v, k, p, d⟩ ++ rest)) hx.v
        simpa using this
      unfold vecR
      dsimp only
      rw [hv]
    | false =>
      refine (step1n ?_).trans ?_
      · exact h
      have hv : v = [] := by rw [has_vec] at h; simp at h; rw [if_neg (by omega)] at ov; exact ov
      unfold vecB
      dsimp only
      rw [h, if_neg (by decide), hv]; rfl
  have e3 : iterR (putB ⟨op, id, v, k, p, d⟩ how ++ rest) 3 = ⟨dB ⟨op, id, v, k, p, d⟩ ++ rest, 0, false, ⟨op, id, v, k, p, []⟩⟩ := by
    show stepR 2 (iterR _ 2) = _
    rw [e2]
    cases h : hasN op 4 with
    | true =>
      refine (step2 ?_).trans ?_
      · exact h
      have hl : (0 ≤ k ∧ k ≤ 2147483647) ∧ 0 ≤ p ∧ p ≤ 2147483647 := by rw [has_k] at h; simp at h; rw [if_pos (by omega)] at ok; exact ok
      have e : kB ⟨op, id, v, k, p, d⟩ ++ (dB ⟨op, id, v, k, p, d⟩ ++ rest) = lowB k 4 ++ (lowB p 4 ++ (dB ⟨op, id, v, k, p, d⟩ ++ rest)) := by
        conv => lhs; unfold kB
        dsimp only; rw [h, if_pos rfl]; simp
      rw [e]
      unfold seaR
      dsimp only
      rw [numP4 k _ (by omega) (by omega)]
      dsimp only
      rw [numP4 p _ (by omega) (by omega)]
    | false =>
      refine (step2n ?_).trans ?_
      · exact h
      have hv : k = 0 ∧ p = 0 := by rw [has_k] at h; simp at h; rw [if_neg (by omega)] at ok; exact ok
      conv => lhs; unfold kB
      dsimp only
      rw [h, if_neg (by decide), hv.1, hv.2]; rfl
  show stepR 3 (iterR _ 3) = _
  rw [e3]
  cases h : hasN op 8 with
  | true =>
    refine (step3 ?_).trans ?_
    · exact h
    have hl : d.length ≤ 4096 := by rw [has_draws] at h; simp at h; rw [if_pos h] at od; exact od
    have hd : drawsP (dB ⟨op, id, v, k, p, d⟩ ++ rest) 0 false [] = (rest, 0, false, d) := by
      have e : dB ⟨op, id, v, k, p, d⟩ ++ rest = lowB d.length 2 ++ (d.flatMap (fun y => lowB y 8) ++ rest) := by
        unfold dB; dsimp only; rw [h, if_pos rfl]; simp
      rw [e]
      unfold drawsP
      rw [numP2 _ _ (by omega) (by omega)]
      dsimp only
      rw [decide_eq_false (show ¬ 4096 < (d.length : Int) by omega), show ((d.length : Int)).toNat = d.length from rfl, drawL_put d [] rest hx.d]
      simp
    unfold draR
    dsimp only
    rw [hd]
  | false =>
    refine (step3n ?_).trans ?_
    · exact h
    have hv : d = [] := by rw [has_draws] at h; simp at h; rw [if_neg h] at od; exact od
    unfold dB
    dsimp only
    rw [h, if_neg (by decide), hv]; rfl
theorem parse_put (x : Cm) (how : Nat) (hok : cmOk x) (hx : CmB x) (hh : how ≤ 16) : parseR (putB x how) = some x := by
  have h := iter_put x how [] hok hx hh
  rw [List.append_nil] at h
  unfold parseR
  rw [h]
  exact if_pos ⟨rfl, rfl, hok⟩
theorem parse_more (x : Cm) (how : Nat) (m : Int) (hok : cmOk x) (hx : CmB x) (hh : how ≤ 16) : parseR (putB x how ++ [m]) = none := by
  unfold parseR
  rw [iter_put x how [m] hok hx hh]
  exact if_neg (fun hh => by have h2 := hh.2.1; simp [endE] at h2)
/-! Less than all. -/
theorem tk_err {b : List Int} {e n l : Int} (h : e ≠ 0) : tk b e n l = ([], b, e) := if_pos h
theorem numP_err {b : List Int} {e n : Int} (h : e ≠ 0) : (numP n b e).2.2 = e := by unfold numP; rw [tk_err h]
theorem sgnP_err {b : List Int} {e n : Int} (h : e ≠ 0) : (sgnP n b e).2.2 = e := numP_err h
/-- A number read where D is cut off: the same, or an error. -/
theorem numP_cut (n : Nat) (hn : n ≤ 8) (T D : List Int) : (numP n T 0).2.2 ≠ 0 ∨ (numP n (T ++ D) 0 = ((numP n T 0).1, (numP n T 0).2.1 ++ D, 0) ∧ (numP n T 0).2.2 = 0) := by
  by_cases h : n ≤ T.length
  · right
    have e1 : T = T.take n ++ T.drop n := (List.take_append_drop n T).symm
    have l1 : (T.take n).length = n := by rw [List.length_take]; omega
    have k1 := numP_at n (T.take n) (T.drop n) l1 hn
    have k2 := numP_at n (T.take n) (T.drop n ++ D) l1 hn
    rw [← e1] at k1
    rw [← List.append_assoc, ← e1] at k2
    rw [k1, k2]
    exact ⟨rfl, rfl⟩
  · left
    unfold numP tk
    rw [if_neg (by simp), if_neg (by omega), if_pos (by omega)]
    show (5 : Int) ≠ 0
    decide
/-- One state beside another whose bytes go on by D. -/
def Sim (D : List Int) (F T : List Int × Int × Bool × List Int) : Prop := T.2.1 ≠ 0 ∨ (F = (T.1 ++ D, 0, T.2.2.1, T.2.2.2) ∧ T.2.1 = 0)
theorem vecS_cut (how : Int) (T D v : List Int) : Sim D (vecS how (T ++ D) 0 v) (vecS how T 0 v) := by
  unfold vecS
  by_cases h : how = 0
  · rw [if_pos h, if_pos h]
    have k := numP_cut 2 (by decide) T D
    rw [show ((2 : Nat) : Int) = 2 from rfl] at k
    rcases k with k | ⟨k1, k2⟩
    · exact .inl k
    · refine .inr ⟨?_, k2⟩
      unfold sgnP
      rw [k1]
  · rw [if_neg h, if_neg h]
    have k := numP_cut 8 (by decide) T D
    rw [show ((8 : Nat) : Int) = 8 from rfl] at k
    rcases k with k | ⟨k1, k2⟩
    · exact .inl k
    · refine .inr ⟨?_, k2⟩
      rw [k1]
theorem vecL_err (how : Int) (k : Nat) (b : List Int) (e : Int) (bad : Bool) (v : List Int) (h : e ≠ 0) : (vecL how k b e bad v).2.1 ≠ 0 := by
  cases k with
  | zero => exact h
  | succ k =>
    show (if bad = true ∨ e ≠ 0 then (b, e, bad, v) else _ : List Int × Int × Bool × List Int).2.1 ≠ 0
    rw [if_pos (.inr h)]
    exact h
theorem vecL_cut (how : Int) (D : List Int) : ∀ (k : Nat) (T : List Int) (bad : Bool) (v : List Int), Sim D (vecL how k (T ++ D) 0 bad v) (vecL how k T 0 bad v)
  | 0, T, bad, v => .inr ⟨rfl, rfl⟩
  | k + 1, T, bad, v => by
    show Sim D (if bad = true ∨ (0 : Int) ≠ 0 then (T ++ D, 0, bad, v) else vecL how k (vecS how (T ++ D) 0 v).1 (vecS how (T ++ D) 0 v).2.1 (vecS how (T ++ D) 0 v).2.2.1 (vecS how (T ++ D) 0 v).2.2.2) (if bad = true ∨ (0 : Int) ≠ 0 then (T, 0, bad, v) else vecL how k (vecS how T 0 v).1 (vecS how T 0 v).2.1 (vecS how T 0 v).2.2.1 (vecS how T 0 v).2.2.2)
    by_cases hb : bad = true ∨ (0 : Int) ≠ 0
    · rw [if_pos hb, if_pos hb]
      exact .inr ⟨rfl, rfl⟩
    · rw [if_neg hb, if_neg hb]
      rcases vecS_cut how T D v with h | ⟨h1, h2⟩
      · exact .inl (vecL_err how k _ _ _ _ h)
      · rw [h1, h2]
        exact vecL_cut how D k _ _ _
theorem drawL_err (k : Nat) (b : List Int) (e : Int) (d : List Int) (h : e ≠ 0) : (drawL k b e d).2.1 ≠ 0 := by
  cases k with
  | zero => exact h
  | succ k =>
    show (if e ≠ 0 then (b, e, d) else _ : List Int × Int × List Int).2.1 ≠ 0
    rw [if_pos h]
    exact h
theorem drawL_cut (D : List Int) : ∀ (k : Nat) (T d : List Int), (drawL k T 0 d).2.1 ≠ 0 ∨ (drawL k (T ++ D) 0 d = ((drawL k T 0 d).1 ++ D, 0, (drawL k T 0 d).2.2) ∧ (drawL k T 0 d).2.1 = 0)
  | 0, T, d => .inr ⟨rfl, rfl⟩
  | k + 1, T, d => by
    have e1 : ∀ b, drawL (k + 1) b 0 d = drawL k (numP 8 b 0).2.1 (numP 8 b 0).2.2 (d ++ [(numP 8 b 0).1]) := fun b => by
      show (if (0 : Int) ≠ 0 then _ else _) = _
      rw [if_neg (by simp)]
    rw [e1, e1]
    have k := numP_cut 8 (by decide) T D
    rw [show ((8 : Nat) : Int) = 8 from rfl] at k
    rcases k with h | ⟨h1, h2⟩
    · exact .inl (drawL_err _ _ _ _ h)
    · rw [h1, h2]
      exact drawL_cut D _ _ _
/-- Two readings side by side. -/
def SimR (D : List Int) (F T : Rs) : Prop := T.e ≠ 0 ∨ (F = ⟨T.b ++ D, 0, T.bad, T.x⟩ ∧ T.e = 0)
theorem idR_err {s : Rs} (h : s.e ≠ 0) : (idR s).e ≠ 0 := by unfold idR; rw [sgnP_err h]; exact h
theorem vecR_err {s : Rs} (h : s.e ≠ 0) : (vecR s).e ≠ 0 := by
  unfold vecR vecP
  exact vecL_err _ _ _ _ _ _ (by rw [numP_err (by rw [numP_err h]; exact h), numP_err h]; exact h)
theorem seaR_err {s : Rs} (h : s.e ≠ 0) : (seaR s).e ≠ 0 := by
  unfold seaR
  show (numP 4 _ _).2.2 ≠ 0
  rw [numP_err (by rw [numP_err h]; exact h), numP_err h]; exact h
theorem draR_err {s : Rs} (h : s.e ≠ 0) : (draR s).e ≠ 0 := by
  unfold draR drawsP
  split
  · show (numP 2 s.b s.e).2.2 ≠ 0
    rw [numP_err h]; exact h
  · exact drawL_err _ _ _ _ (by rw [numP_err h]; exact h)
theorem idR_cut {D : List Int} {s : Rs} (h : s.e = 0) : SimR D (idR ⟨s.b ++ D, 0, s.bad, s.x⟩) (idR s) := by
  have k := numP_cut 8 (by decide) s.b D
  rw [show ((8 : Nat) : Int) = 8 from rfl] at k
  unfold idR sgnP
  rw [h]
  dsimp only
  rcases k with k | ⟨k1, k2⟩
  · exact .inl k
  · refine .inr ⟨?_, k2⟩
    rw [k1]
theorem vecR_cut {D : List Int} {s : Rs} (h : s.e = 0) : SimR D (vecR ⟨s.b ++ D, 0, s.bad, s.x⟩) (vecR s) := by
  have k := numP_cut 1 (by decide) s.b D
  rw [show ((1 : Nat) : Int) = 1 from rfl] at k
  unfold vecR vecP
  rw [h]
  dsimp only
  rcases k with k | ⟨k1, k2⟩
  · refine .inl (vecL_err _ _ _ _ _ _ ?_)
    rw [numP_err k]; exact k
  · rw [k1]
    dsimp only
    have k := numP_cut 2 (by decide) (numP 1 s.b 0).2.1 D
    rw [show ((2 : Nat) : Int) = 2 from rfl] at k
    rw [k2]
    rcases k with k | ⟨k3, k4⟩
    · exact .inl (vecL_err _ _ _ _ _ _ k)
    · rw [k3]
      dsimp only
      rw [k4]
      rcases vecL_cut (numP 1 s.b 0).1 D (numP 2 (numP 1 s.b 0).2.1 0).1.toNat (numP 2 (numP 1 s.b 0).2.1 0).2.1 (s.bad || decide (16 < (numP 1 s.b 0).1) || decide ((numP 2 (numP 1 s.b 0).2.1 0).1 < 1) || decide (1024 < (numP 2 (numP 1 s.b 0).2.1 0).1)) [] with q | ⟨q1, q2⟩
      · exact .inl q
      · refine .inr ⟨?_, q2⟩
        rw [q1]
theorem seaR_cut {D : List Int} {s : Rs} (h : s.e = 0) : SimR D (seaR ⟨s.b ++ D, 0, s.bad, s.x⟩) (seaR s) := by
  have k := numP_cut 4 (by decide) s.b D
  rw [show ((4 : Nat) : Int) = 4 from rfl] at k
  unfold seaR
  rw [h]
  dsimp only
  rcases k with k | ⟨k1, k2⟩
  · refine .inl ?_
    show (numP 4 _ _).2.2 ≠ 0
    rw [numP_err k]; exact k
  · rw [k1]
    dsimp only
    have k := numP_cut 4 (by decide) (numP 4 s.b 0).2.1 D
    rw [show ((4 : Nat) : Int) = 4 from rfl] at k
    rw [k2]
    rcases k with k | ⟨k3, k4⟩
    · exact .inl k
    · refine .inr ⟨?_, k4⟩
      rw [k3]
theorem draR_cut {D : List Int} {s : Rs} (h : s.e = 0) : SimR D (draR ⟨s.b ++ D, 0, s.bad, s.x⟩) (draR s) := by
  have k := numP_cut 2 (by decide) s.b D
  rw [show ((2 : Nat) : Int) = 2 from rfl] at k
  unfold draR drawsP
  rw [h]
  dsimp only
  rcases k with k | ⟨k1, k2⟩
  · left
    split
    · exact k
    · exact drawL_err _ _ _ _ k
  · rw [k1]
    dsimp only
    rw [k2]
    by_cases hb : (s.bad || decide (4096 < (numP 2 s.b 0).1)) = true
    · rw [if_pos hb, if_pos hb]
      exact .inr ⟨rfl, rfl⟩
    · rw [if_neg hb, if_neg hb]
      rcases drawL_cut D (numP 2 s.b 0).1.toNat (numP 2 s.b 0).2.1 [] with q | ⟨q1, q2⟩
      · exact .inl q
      · refine .inr ⟨?_, q2⟩
        rw [q1]
theorem stepR_cut {D : List Int} {F T : Rs} (i : Nat) (h : SimR D F T) : SimR D (stepR i F) (stepR i T) := by
  rcases h with h | ⟨rfl, h⟩
  · left
    match i with
    | 0 => show (if hasN T.x.op 1 = true then idR T else T).e ≠ 0; split; exact idR_err h; exact h
    | 1 => show (if hasN T.x.op 2 = true then vecR T else T).e ≠ 0; split; exact vecR_err h; exact h
    | 2 => show (if hasN T.x.op 4 = true then seaR T else T).e ≠ 0; split; exact seaR_err h; exact h
    | _ + 3 => show (if hasN T.x.op 8 = true then draR T else T).e ≠ 0; split; exact draR_err h; exact h
  · match i with
    | 0 => show SimR D (if hasN T.x.op 1 = true then idR _ else _) (if hasN T.x.op 1 = true then idR T else T); split; exact idR_cut h; exact .inr ⟨rfl, h⟩
    | 1 => show SimR D (if hasN T.x.op 2 = true then vecR _ else _) (if hasN T.x.op 2 = true then vecR T else T); split; exact vecR_cut h; exact .inr ⟨rfl, h⟩
    | 2 => show SimR D (if hasN T.x.op 4 = true then seaR _ else _) (if hasN T.x.op 4 = true then seaR T else T); split; exact seaR_cut h; exact .inr ⟨rfl, h⟩
    | _ + 3 => show SimR D (if hasN T.x.op 8 = true then draR _ else _) (if hasN T.x.op 8 = true then draR T else T); split; exact draR_cut h; exact .inr ⟨rfl, h⟩
theorem startR_cut (T D : List Int) : SimR D (startR (T ++ D)) (startR T) := by
  have k := numP_cut 1 (by decide) T D
  rw [show ((1 : Nat) : Int) = 1 from rfl] at k
  unfold startR
  rcases k with k | ⟨k1, k2⟩
  · exact .inl k
  · refine .inr ⟨?_, k2⟩
    rw [k1]
theorem iterR_cut (T D : List Int) : ∀ i, SimR D (iterR (T ++ D) i) (iterR T i)
  | 0 => startR_cut T D
  | i + 1 => stepR_cut i (iterR_cut T D i)
/-- Less than all is no command's. -/
theorem parse_less (x : Cm) (how k : Nat) (hok : cmOk x) (hx : CmB x) (hh : how ≤ 16) (hk : k < (putB x how).length) : parseR ((putB x how).take k) = none := by
  have h := iter_put x how [] hok hx hh
  rw [List.append_nil] at h
  have hc := iterR_cut ((putB x how).take k) ((putB x how).drop k) 4
  rw [List.take_append_drop, h] at hc
  unfold parseR
  refine if_neg fun hp => ?_
  rcases hc with hc | ⟨hc, _⟩
  · have h2 := hp.2.1
    unfold endE at h2
    rw [if_pos hc] at h2
    exact hc h2
  · have h2 := congrArg (fun s : Rs => s.b.length) hc
    simp at h2
    omega
end Go.Proofs.Ytjdablkdndmcgaa
