/- CmdX: what Status tells of an insert's bytes put together by hand. Plain lists. -/
import Derived.Test.YtjdablkdndmcgaaCmdT
namespace Go.Proofs.Ytjdablkdndmcgaa
set_option linter.unusedVariables false
set_option linter.unusedSimpArgs false
open Go.RowKit
theorem lowB_cons (x : Int) (m : Nat) : lowB x (m + 1) = x % 256 :: lowB (x / 256) m := by
  unfold lowB
  rw [List.range_succ_eq_map, List.map_cons, List.map_map]
  congr 1
  · simp
  · apply List.map_congr_left
    intro i _
    simp only [Function.comp]
    rw [show 8 * (i + 1) = 8 + 8 * i by omega, Int.pow_add, ← Int.ediv_ediv_of_nonneg (by decide)]
    rfl
theorem ofB_lowB (x : Int) (m : Nat) : ofB (lowB x m) = x % 2 ^ (8 * m) := by
  induction m generalizing x with
  | zero => simp [lowB, ofB]
  | succ m ih =>
    rw [lowB_cons]
    show x % 256 + 256 * ofB (lowB (x / 256) m) = _
    rw [ih, show 8 * (m + 1) = 8 + 8 * m by omega, Int.pow_add]
    have e : (2 : Int) ^ 8 = 256 := by decide
    rw [e]
    generalize (2 : Int) ^ (8 * m) = P
    rw [Int.emod_def x (256 * P), Int.emod_def (x / 256) P, ← Int.ediv_ediv_of_nonneg (show (0 : Int) ≤ 256 by decide), Int.mul_assoc 256 P]
    generalize P * (x / 256 / P) = t
    omega
theorem lowB_bytes (x : Int) (m : Nat) : Bytes (lowB x m) := fun y hy => by
  unfold lowB at hy
  obtain ⟨i, _, rfl⟩ := List.mem_map.1 hy
  omega
theorem numP_at (n : Nat) (S rest : List Int) (hS : S.length = n) (hn : n ≤ 8) : numP n (S ++ rest) 0 = (ofB S, rest, 0) := by
  subst hS
  have h1 : tk (S ++ rest) 0 (S.length : Int) 8 = (S, rest, 0) := by
    unfold tk
    rw [if_neg (by simp), if_neg (by omega), if_neg (by simp; omega)]
    simp
  unfold numP
  rw [h1]
  dsimp only
  rw [List.take_of_length_le hn]
theorem numP_low (n : Nat) (x : Int) (rest : List Int) (hn : n ≤ 8) (h0 : 0 ≤ x) (h1 : x < 2 ^ (8 * n)) : numP n (lowB x n ++ rest) 0 = (x, rest, 0) := by
  rw [numP_at n (lowB x n) rest (lowB_length x n) hn, ofB_lowB, Int.emod_eq_of_lt h0 h1]
/-- A number that an 8-byte signed field holds. -/
theorem sgnP_low (x : Int) (rest : List Int) (h0 : 0 ≤ x) (h1 : x < 9223372036854775808) : sgnP 8 (lowB x 8 ++ rest) 0 = (x, rest, 0) := by
  have h := numP_low 8 x rest (by decide) h0 (by have : (2 : Int) ^ (8 * 8) = 18446744073709551616 := by decide
                                                 omega)
  rw [show ((8 : Nat) : Int) = 8 from rfl] at h
  unfold sgnP
  rw [h]
  dsimp only
  congr 1
  unfold sgn8
  rw [if_neg (by decide), if_neg (by decide), if_neg (by decide), if_neg (by decide), if_neg (by decide), if_neg (by decide), if_neg (by decide), if_neg (by decide)]
  omega
/-- All of a list of doubles, and what they are worth. -/
def flatU (l : List Int) : List Int := l.flatMap fun x => lowB x 8
def goodU (f : Int) (l : List Int) : Bool := l.all fun x => (fix x f).2 == 0
def wantU (f : Int) (l : List Int) : List Int := l.map fun x => (fix x f).1
def U64 (l : List Int) : Prop := ∀ x ∈ l, 0 ≤ x ∧ x ≤ 18446744073709551615
theorem vecL_flat (f : Int) (hf : 0 ≤ f) : ∀ (l v rest : List Int), U64 l →
    (goodU f l = true → vecL (f + 1) l.length (flatU l ++ rest) 0 false v = (rest, 0, false, v ++ wantU f l)) ∧
    (goodU f l = false → (vecL (f + 1) l.length (flatU l ++ rest) 0 false v).2.2.1 = true)
  | [], v, rest, _ => by
    refine ⟨fun _ => ?_, fun h => by cases h⟩
    simp [flatU, wantU, vecL]
  | x :: l, v, rest, hu => by
    obtain ⟨x0, x1⟩ := hu x (List.mem_cons_self ..)
    have hu' : U64 l := fun y hy => hu y (List.mem_cons_of_mem _ hy)
    have hx : flatU (x :: l) ++ rest = lowB x 8 ++ (flatU l ++ rest) := by simp [flatU]
    have hs : vecS (f + 1) (flatU (x :: l) ++ rest) 0 v = (flatU l ++ rest, 0, (fix x f).2 != 0, v ++ [(fix x f).1]) := by
      unfold vecS
      rw [if_neg (by omega), hx]
      have h := numP_low 8 x (flatU l ++ rest) (by decide) x0 (by have : (2 : Int) ^ (8 * 8) = 18446744073709551616 := by decide
                                                                  omega)
      rw [show ((8 : Nat) : Int) = 8 from rfl] at h
      rw [h, show f + 1 - 1 = f by omega]
    have hst : vecL (f + 1) (x :: l).length (flatU (x :: l) ++ rest) 0 false v = vecL (f + 1) l.length (flatU l ++ rest) 0 ((fix x f).2 != 0) (v ++ [(fix x f).1]) := by
      show (if false = true ∨ (0 : Int) ≠ 0 then _ else _) = _
      rw [if_neg (by simp), hs]
    rw [hst]
    by_cases hb : (fix x f).2 = 0
    · rw [hb]
      have ih := vecL_flat f hf l (v ++ [(fix x f).1]) rest hu'
      have hg : goodU f (x :: l) = goodU f l := by simp [goodU, hb]
      rw [hg]
      refine ⟨fun h => ?_, ih.2⟩
      rw [show ((0 : Int) != 0) = false from rfl, ih.1 h]
      simp [wantU]
    · have hb' : ((fix x f).2 != 0) = true := by simpa using hb
      rw [hb']
      have hg : goodU f (x :: l) = false := by simp [goodU, hb]
      rw [hg]
      refine ⟨fun h => (by cases h), fun _ => ?_⟩
      cases l with
      | nil => rfl
      | cons y l =>
        show (if true = true ∨ (0 : Int) ≠ 0 then _ else _ : List Int × Int × Bool × List Int).2.2.1 = true
        rw [if_pos (.inl rfl)]
/-- The bytes. -/
def rawD (id f : Int) (l : List Int) : List Int := [1] ++ lowB id 8 ++ [f + 1, (l.length : Int), 0] ++ flatU l
theorem step0 {s : Rs} (h : hasN s.x.op 1 = true) : stepR 0 s = idR s := if_pos h
theorem step1 {s : Rs} (h : hasN s.x.op 2 = true) : stepR 1 s = vecR s := if_pos h
theorem step2 {s : Rs} (h : hasN s.x.op 4 = true) : stepR 2 s = seaR s := if_pos h
theorem step3 {s : Rs} (h : hasN s.x.op 8 = true) : stepR 3 s = draR s := if_pos h
theorem step0n {s : Rs} (h : hasN s.x.op 1 = false) : stepR 0 s = s := if_neg (by rw [h]; decide)
theorem step1n {s : Rs} (h : hasN s.x.op 2 = false) : stepR 1 s = s := if_neg (by rw [h]; decide)
theorem step2n {s : Rs} (h : hasN s.x.op 4 = false) : stepR 2 s = s := if_neg (by rw [h]; decide)
theorem step3n {s : Rs} (h : hasN s.x.op 8 = false) : stepR 3 s = s := if_neg (by rw [h]; decide)
theorem has11 : hasN 1 1 = true := by kernel_rfl
theorem has12 : hasN 1 2 = true := by kernel_rfl
theorem has14 : hasN 1 4 = false := by kernel_rfl
theorem has18 : hasN 1 8 = false := by kernel_rfl
theorem ofB_one (x : Int) : ofB [x] = x := by simp [ofB]
theorem ofB_two (x : Int) : ofB [x, 0] = x := by simp [ofB]
theorem status_raw (id f : Int) (l : List Int) (i0 : 1 ≤ id) (i1 : id < 9223372036854775808) (f0 : 0 ≤ f) (f1 : f ≤ 15) (hl : 1 ≤ l.length) (hl2 : l.length ≤ 200) (hu : U64 l) :
    statusR (rawD id f l) l.length = if goodU f l = true then (⟨1, id, wantU f l, 0, 0, []⟩, 0) else (cm0, 1) := by
  have e0 : startR (rawD id f l) = ⟨lowB id 8 ++ ([f + 1] ++ ([(l.length : Int), 0] ++ (flatU l ++ []))), 0, false, ⟨1, 0, [], 0, 0, []⟩⟩ := by
    have h := numP_at 1 [1] (lowB id 8 ++ ([f + 1] ++ ([(l.length : Int), 0] ++ (flatU l ++ [])))) rfl (by decide)
    have e : rawD id f l = [1] ++ (lowB id 8 ++ ([f + 1] ++ ([(l.length : Int), 0] ++ (flatU l ++ [])))) := by simp [rawD]
    rw [← e, ofB_one, show ((1 : Nat) : Int) = 1 from rfl] at h
    unfold startR
    rw [h]
  have e1 : iterR (rawD id f l) 1 = ⟨[f + 1] ++ ([(l.length : Int), 0] ++ (flatU l ++ [])), 0, false, ⟨1, id, [], 0, 0, []⟩⟩ := by
    show stepR 0 (startR (rawD id f l)) = _
    rw [e0]
    refine (step0 ?_).trans ?_
    · exact has11
    unfold idR
    dsimp only
    rw [sgnP_low id _ (by omega) i1]
  have hv : vecP ([f + 1] ++ ([(l.length : Int), 0] ++ (flatU l ++ []))) 0 false = vecL (f + 1) l.length (flatU l ++ []) 0 false [] := by
    have h1 := numP_at 1 [f + 1] ([(l.length : Int), 0] ++ (flatU l ++ [])) rfl (by decide)
    rw [ofB_one, show ((1 : Nat) : Int) = 1 from rfl] at h1
    have h2 := numP_at 2 [(l.length : Int), 0] (flatU l ++ []) rfl (by decide)
    rw [ofB_two, show ((2 : Nat) : Int) = 2 from rfl] at h2
    unfold vecP
    rw [h1]
    dsimp only
    rw [h2]
    dsimp only
    rw [decide_eq_false (show ¬ 16 < f + 1 by omega), decide_eq_false (show ¬ (l.length : Int) < 1 by omega), decide_eq_false (show ¬ 1024 < (l.length : Int) by omega)]
    rfl
  have e2 : iterR (rawD id f l) 2 = vecR (iterR (rawD id f l) 1) := by
    show stepR 1 (iterR (rawD id f l) 1) = _
    rw [e1]
    refine step1 ?_
    exact has12
  have e4 : iterR (rawD id f l) 4 = iterR (rawD id f l) 2 := by
    have h3 : iterR (rawD id f l) 3 = iterR (rawD id f l) 2 := by
      have : (iterR (rawD id f l) 2).x.op = 1 := by rw [e2, e1]; rfl
      exact step2n (by rw [this, has14])
    have : (iterR (rawD id f l) 3).x.op = 1 := by rw [h3, e2, e1]; rfl
    exact (step3n (by rw [this, has18])).trans h3
  have hx : (iterR (rawD id f l) 4) = ⟨(vecL (f + 1) l.length (flatU l ++ []) 0 false []).1, (vecL (f + 1) l.length (flatU l ++ []) 0 false []).2.1, (vecL (f + 1) l.length (flatU l ++ []) 0 false []).2.2.1, ⟨1, id, (vecL (f + 1) l.length (flatU l ++ []) 0 false []).2.2.2, 0, 0, []⟩⟩ := by
    rw [e4, e2, e1]
    unfold vecR
    dsimp only
    rw [hv]
  have hF := vecL_flat f f0 l [] [] hu
  unfold statusR parseR
  rw [hx]
  dsimp only
  cases hg : goodU f l with
  | true =>
    rw [hF.1 hg]
    dsimp only
    have hlen : (wantU f l).length = l.length := by simp [wantU]
    rw [List.nil_append, if_pos, if_pos rfl]
    · unfold stOf
      dsimp only
      rw [if_neg (fun h => h.2 (by rw [hlen]))]
    · refine ⟨rfl, rfl, ?_⟩
      unfold cmOk
      dsimp only
      refine ⟨by omega, ?_, ?_, ?_, ?_⟩
      · rw [if_pos (.inl rfl)]; exact i0
      · rw [if_pos (.inl rfl), hlen]; omega
      · rw [if_neg (by omega)]; exact ⟨rfl, rfl⟩
      · rw [if_neg (by omega)]
  | false =>
    rw [if_neg (fun h => by rw [hF.2 hg] at h; cases h.1), if_neg (by simp)]
    rfl
theorem rawD_bytes (id f : Int) (l : List Int) (f0 : 0 ≤ f) (f1 : f ≤ 15) (hl2 : l.length ≤ 200) : Bytes (rawD id f l) := by
  intro x hx
  unfold rawD flatU at hx
  simp only [List.mem_append, List.mem_cons, List.not_mem_nil, or_false, List.mem_flatMap] at hx
  rcases hx with ((rfl | h) | (rfl | rfl | rfl)) | ⟨y, _, h⟩
  · omega
  · exact lowB_bytes _ _ x h
  · omega
  · omega
  · omega
  · exact lowB_bytes _ _ x h
theorem flatU_length (l : List Int) : (flatU l).length = 8 * l.length := by
  induction l with
  | nil => rfl
  | cons x l ih => simp only [flatU, List.flatMap_cons, List.length_append, lowB_length, List.length_cons] at ih ⊢; omega
theorem rawD_length (id f : Int) (l : List Int) : (rawD id f l).length = 12 + 8 * l.length := by
  unfold rawD
  simp only [List.length_append, lowB_length, flatU_length, List.length_cons, List.length_nil]
end Go.Proofs.Ytjdablkdndmcgaa
