/- Slots: words of bits, numbers of vectors, plain. No program of its own. -/
import Derived.Test.YtcmdjnllpcnpjaaDoorMem
import Derived.Lib.TrailingZeros
import Derived.Laws.Bits64b
namespace Go.Proofs.YtcmdjnllpcnpjaaDoor
set_option linter.unusedVariables false
set_option linter.unusedSimpArgs false
open Go.RowKit
abbrev St := List (Option (List Int))
def used (st : St) (n : Nat) : Bool := (st.getD n none).isSome
/-- The least free slot. -/
def leastS (st : St) : Nat := st.findIdx (·.isNone)
/-- How many are used. -/
def cntS (st : St) : Nat := st.countP (·.isSome)
theorem used_lt {st : St} {n : Nat} (h : used st n = true) : n < st.length := by
  rcases Nat.lt_or_ge n st.length with h1 | h1
  · exact h1
  · unfold used at h
    rw [List.getD_eq_getElem?_getD, List.getElem?_eq_none h1] at h
    cases h
theorem used_ge {st : St} {n : Nat} (h : st.length ≤ n) : used st n = false := by
  unfold used
  rw [List.getD_eq_getElem?_getD, List.getElem?_eq_none h]; rfl
theorem used_get {st : St} {n : Nat} (h : n < st.length) : used st n = st[n].isSome := by
  unfold used
  rw [List.getD_eq_getElem?_getD, List.getElem?_eq_getElem h]; rfl
theorem least_le (st : St) : leastS st ≤ st.length := List.findIdx_le_length
theorem least_free (st : St) : used st (leastS st) = false := by
  rcases Nat.lt_or_ge (leastS st) st.length with h | h
  · rw [used_get h]
    have := List.findIdx_getElem (p := fun x : Option (List Int) => x.isNone) (xs := st) (w := h)
    show (st[st.findIdx _]'h).isSome = false
    cases hx : (st[st.findIdx (fun x : Option (List Int) => x.isNone)]'h) with
    | none => rfl
    | some v => rw [hx] at this; cases this
  · exact used_ge h
theorem used_below {st : St} {j : Nat} (h : j < leastS st) : used st j = true := by
  have hl := least_le st
  have hj : j < st.length := by omega
  rw [used_get hj]
  have := List.not_of_lt_findIdx h
  cases hx : st[j] with
  | none => rw [hx] at this; cases this
  | some v => rfl
theorem least_eq {st : St} {n : Nat} (h : ∀ j, j < n → used st j = true) (hn : used st n = false) : leastS st = n := by
  rcases Nat.lt_trichotomy (leastS st) n with h1 | h1 | h1
  · have := h _ h1
    rw [least_free] at this; cases this
  · exact h1
  · rw [used_below h1] at hn; cases hn
/-- Words whose bits tell which slots are used. -/
structure Words (st : St) (tk : List Int) : Prop where
  bd : ∀ x ∈ tk, 0 ≤ x ∧ x < 18446744073709551616
  len : tk.length = (st.length + 63) / 64
  bit : ∀ n, n < tk.length * 64 → (tk.getD (n / 64) 0).toNat.testBit (n % 64) = used st n
/-- The numbers. -/
structure NumsS (st : St) (dim : Nat) (al : List Int) : Prop where
  len : al.length = st.length * dim
  get : ∀ n v, st.getD n none = some v → v.length = dim ∧ (al.drop (n * dim)).take dim = v
theorem Words.nil : Words [] [] := ⟨by simp, rfl, fun n hn => absurd hn (by simp)⟩
theorem NumsS.nil (dim : Nat) : NumsS [] dim [] := ⟨by simp, fun n v h => by simp at h⟩
/-- A word that is not full: its least clear bit. -/
theorem low_clear {x : Nat} (hx : x < 18446744073709551615) : Lib.ctz 64 (18446744073709551615 - x) < 64 ∧ x.testBit (Lib.ctz 64 (18446744073709551615 - x)) = false ∧ ∀ j, j < Lib.ctz 64 (18446744073709551615 - x) → x.testBit j = true := by
  have hne : 18446744073709551615 - x ≠ 0 := by omega
  have hlt : 18446744073709551615 - x < 2 ^ 64 := by omega
  obtain ⟨m, hm, hk⟩ := Lib.ctzFrom_spec 64 (18446744073709551615 - x) (by omega) hlt
  have e : Lib.ctz 64 (18446744073709551615 - x) = Lib.ctzFrom 64 (18446744073709551615 - x) := by simp only [Lib.ctz, if_neg hne]
  rw [e]
  generalize Lib.ctzFrom 64 (18446744073709551615 - x) = k at *
  have hc : ∀ j, j < 64 → (18446744073709551615 - x).testBit j = !x.testBit j := fun j hj => by
    have h1 := Nat.testBit_two_pow_sub_succ (x := x) (n := 64) (by omega) j
    have h2 : 2 ^ 64 - (x + 1) = 18446744073709551615 - x := by omega
    rw [h2] at h1
    rw [h1]; simp [hj]
  have hb : ∀ j, (18446744073709551615 - x).testBit j = (decide (k ≤ j) && (2 * m + 1).testBit (j - k)) := fun j => by
    rw [hm, Nat.mul_comm, Nat.testBit_mul_two_pow]
  refine ⟨hk, ?_, fun j hj => ?_⟩
  · have h1 := hb k
    rw [hc k hk] at h1
    simp [Nat.testBit_zero] at h1
    exact h1
  · have h1 := hb j
    rw [hc j (by omega)] at h1
    have : ¬ k ≤ j := by omega
    simp [this] at h1
    exact h1
theorem full_bits {x : Nat} (hx : x = 18446744073709551615) (j : Nat) (hj : j < 64) : x.testBit j = true := by
  subst hx
  have h2 : (18446744073709551615 : Nat) = 2 ^ 64 - 1 := by decide
  rw [h2, Nat.testBit_two_pow_sub_one]; simp [hj]
theorem Words.at {st : St} {tk : List Int} (h : Words st tk) (i : Nat) (hi : i < tk.length) : 0 ≤ tk.getD i 0 ∧ tk.getD i 0 < 18446744073709551616 := by
  rw [List.getD_eq_getElem?_getD, List.getElem?_eq_getElem hi]
  exact h.bd _ (List.getElem_mem hi)
theorem Words.bitAt {st : St} {tk : List Int} (h : Words st tk) (i b : Nat) (hi : i < tk.length) (hb : b < 64) : (tk.getD i 0).toNat.testBit b = used st (i * 64 + b) := by
  have := h.bit (i * 64 + b) (by omega)
  rw [show (i * 64 + b) / 64 = i by omega, show (i * 64 + b) % 64 = b by omega] at this
  exact this
/-- The walk's turn: a word that is full, or one that is not. -/
theorem Words.found {st : St} {tk : List Int} (h : Words st tk) (i : Nat) (hi : i < tk.length) (hp : ∀ j, j < i * 64 → used st j = true) (hne : tk.getD i 0 ≠ 18446744073709551615) :
    i * 64 + Lib.ctz 64 (18446744073709551615 - (tk.getD i 0).toNat) = leastS st := by
  have h1 := h.at i hi
  have h2 := fun b hb => h.bitAt i b hi hb
  generalize tk.getD i 0 = x at *
  obtain ⟨n, rfl⟩ := Int.eq_ofNat_of_zero_le h1.1
  rw [Int.toNat_natCast] at *
  obtain ⟨a1, a2, a3⟩ := low_clear (x := n) (by omega)
  generalize Lib.ctz 64 (18446744073709551615 - n) = k at *
  symm
  refine least_eq (fun j hj => ?_) ?_
  · rcases Nat.lt_or_ge j (i * 64) with h3 | h3
    · exact hp j h3
    · obtain ⟨b, rfl⟩ : ∃ b, j = i * 64 + b := ⟨j - i * 64, by omega⟩
      rw [← h2 b (by omega)]
      exact a3 b (by omega)
  · rw [← h2 k a1]; exact a2
theorem Words.full {st : St} {tk : List Int} (h : Words st tk) (i : Nat) (hi : i < tk.length) (hp : ∀ j, j < i * 64 → used st j = true) (he : tk.getD i 0 = 18446744073709551615) : ∀ j, j < (i + 1) * 64 → used st j = true := by
  intro j hj
  rcases Nat.lt_or_ge j (i * 64) with h3 | h3
  · exact hp j h3
  · obtain ⟨b, rfl⟩ : ∃ b, j = i * 64 + b := ⟨j - i * 64, by omega⟩
    rw [← h.bitAt i b hi (by omega), he]
    exact full_bits rfl b (by omega)
theorem Words.all {st : St} {tk : List Int} (h : Words st tk) (hp : ∀ j, j < tk.length * 64 → used st j = true) : tk.length * 64 = leastS st := by
  symm
  refine least_eq hp (used_ge ?_)
  have := h.len
  omega
/-- A slot is given. -/
def putS (st : St) (v : List Int) : St := if leastS st < st.length then st.set (leastS st) (some v) else st ++ [some v]
def freeS (st : St) (n : Nat) : St := st.set n none
theorem putS_length (st : St) (v : List Int) : (putS st v).length = max st.length (leastS st + 1) := by
  have := least_le st
  unfold putS
  split <;> simp <;> omega
theorem putS_get (st : St) (v : List Int) (n : Nat) : (putS st v).getD n none = if n = leastS st then some v else st.getD n none := by
  have hl := least_le st
  unfold putS
  split
  · rename_i h
    by_cases e : n = leastS st
    · subst e
      rw [if_pos rfl, List.getD_eq_getElem?_getD, List.getElem?_set_self h]; rfl
    · rw [if_neg e, List.getD_eq_getElem?_getD, List.getElem?_set_ne (fun hh => e hh.symm), List.getD_eq_getElem?_getD]
  · rename_i h
    have hh : leastS st = st.length := by omega
    rw [hh]
    by_cases e : n = st.length
    · subst e
      rw [if_pos rfl, List.getD_eq_getElem?_getD, List.getElem?_append_right (Nat.le_refl _)]; simp
    · rw [if_neg e, List.getD_eq_getElem?_getD, List.getD_eq_getElem?_getD]
      rcases Nat.lt_or_ge n st.length with h1 | h1
      · rw [List.getElem?_append_left h1]
      · rw [List.getElem?_eq_none (by simp; omega), List.getElem?_eq_none h1]
theorem putS_used (st : St) (v : List Int) (n : Nat) : used (putS st v) n = (decide (n = leastS st) || used st n) := by
  unfold used
  rw [putS_get]
  split <;> simp [*]
theorem freeS_get (st : St) (m n : Nat) : (freeS st m).getD n none = if n = m then none else st.getD n none := by
  unfold freeS
  by_cases e : n = m
  · subst e
    rw [if_pos rfl, List.getD_eq_getElem?_getD]
    rcases Nat.lt_or_ge n st.length with h1 | h1
    · rw [List.getElem?_set_self h1]; rfl
    · rw [List.getElem?_eq_none (by simp; omega)]; rfl
  · rw [if_neg e, List.getD_eq_getElem?_getD, List.getElem?_set_ne (fun hh => e hh.symm), List.getD_eq_getElem?_getD]
theorem freeS_used (st : St) (m n : Nat) : used (freeS st m) n = (!decide (n = m) && used st n) := by
  unfold used
  rw [freeS_get]
  split <;> simp [*]
theorem freeS_length (st : St) (m : Nat) : (freeS st m).length = st.length := by simp [freeS]
theorem cnt_append (a b : St) : cntS (a ++ b) = cntS a + cntS b := by simp [cntS]
theorem split_st (st : St) (n : Nat) (h : n < st.length) : st = st.take n ++ st.getD n none :: st.drop (n + 1) := by
  rw [List.getD_eq_getElem?_getD, List.getElem?_eq_getElem h]
  simp
theorem set_split (st : St) (n : Nat) (h : n < st.length) (x : Option (List Int)) : st.set n x = st.take n ++ x :: st.drop (n + 1) := by
  rw [List.set_eq_take_append_cons_drop, if_pos h]
theorem cnt_set (st : St) (n : Nat) (h : n < st.length) (x : Option (List Int)) : cntS (st.set n x) + (if used st n then 1 else 0) = cntS st + (if x.isSome then 1 else 0) := by
  have h1 := congrArg cntS (split_st st n h)
  rw [cnt_append] at h1
  rw [set_split st n h, cnt_append]
  have h2 : ∀ y : Option (List Int), cntS (y :: st.drop (n + 1)) = cntS (st.drop (n + 1)) + if y.isSome then 1 else 0 := fun y => by
    unfold cntS; rw [List.countP_cons]
  rw [h2] at h1 ⊢
  unfold used
  omega
theorem cnt_put (st : St) (v : List Int) : cntS (putS st v) = cntS st + 1 := by
  unfold putS
  split
  · rename_i h
    have := cnt_set st (leastS st) h (some v)
    rw [least_free] at this
    simpa using this
  · rw [cnt_append]; rfl
theorem cnt_free (st : St) (n : Nat) (h : used st n = true) : cntS (freeS st n) + 1 = cntS st := by
  have := cnt_set st n (used_lt h) none
  rw [h] at this
  simpa [freeS] using this
theorem cnt_le (st : St) : cntS st ≤ st.length := List.countP_le_length
/-- The bit of a slot is set. -/
theorem bit_or {x b : Nat} (hx : x < 18446744073709551616) (hb : b < 64) : x ||| 2 ^ b < 18446744073709551616 :=
  Nat.or_lt_two_pow (n := 64) (by omega) (Nat.pow_lt_pow_right (by decide) hb)
theorem bit_or_at (x b j : Nat) : (x ||| 2 ^ b).testBit j = (x.testBit j || decide (b = j)) := by
  rw [Nat.testBit_or, Nat.testBit_two_pow]
/-- The words with a place for the least slot. -/
def grownT (st : St) (tk : List Int) : List Int := if leastS st / 64 = tk.length then tk ++ [0] else tk
theorem grownT_lt {st : St} {tk : List Int} (h : Words st tk) : leastS st / 64 < (grownT st tk).length := by
  have := h.len; have := least_le st
  unfold grownT
  split <;> simp <;> omega
theorem grownT_get (st : St) (tk : List Int) (i : Nat) : (grownT st tk).getD i 0 = tk.getD i 0 := by
  unfold grownT
  split
  · rw [List.getD_eq_getElem?_getD, List.getD_eq_getElem?_getD]
    rcases Nat.lt_or_ge i tk.length with h1 | h1
    · rw [List.getElem?_append_left h1]
    · rw [List.getElem?_append_right h1, List.getElem?_eq_none h1]
      cases i - tk.length <;> rfl
  · rfl
theorem Words.bitGrown {st : St} {tk : List Int} (h : Words st tk) (n : Nat) : (tk.getD (n / 64) 0).toNat.testBit (n % 64) = used st n := by
  rcases Nat.lt_or_ge (n / 64) tk.length with h1 | h1
  · exact h.bit n (by omega)
  · have := h.len
    rw [used_ge (by omega), List.getD_eq_getElem?_getD, List.getElem?_eq_none h1]
    simp
theorem getD_set_list (l : List Int) (i j : Nat) (x : Int) (h : i < l.length) : (l.set i x).getD j 0 = if j = i then x else l.getD j 0 := by
  rw [List.getD_eq_getElem?_getD, List.getD_eq_getElem?_getD]
  by_cases e : j = i
  · subst e; rw [if_pos rfl, List.getElem?_set_self h]; rfl
  · rw [if_neg e, List.getElem?_set_ne (fun hh => e hh.symm)]
theorem Words.atGrown {st : St} {tk : List Int} (h : Words st tk) (i : Nat) : 0 ≤ tk.getD i 0 ∧ tk.getD i 0 < 18446744073709551616 := by
  rcases Nat.lt_or_ge i tk.length with h1 | h1
  · exact h.at i h1
  · rw [List.getD_eq_getElem?_getD, List.getElem?_eq_none h1]; simp
theorem Words.put {st : St} {tk : List Int} (h : Words st tk) (v : List Int) :
    Words (putS st v) ((grownT st tk).set (leastS st / 64) (((tk.getD (leastS st / 64) 0).toNat ||| 2 ^ (leastS st % 64) : Nat) : Int)) := by
  have hlt := grownT_lt h
  have hl := least_le st
  have h64 := h.len
  have hg : (grownT st tk).length = ((putS st v).length + 63) / 64 := by
    rw [putS_length]
    unfold grownT
    split <;> (try simp) <;> omega
  refine ⟨fun x hx => ?_, by rw [List.length_set]; exact hg, fun n hn => ?_⟩
  · rcases List.mem_or_eq_of_mem_set hx with hx | rfl
    · unfold grownT at hx
      split at hx
      · rcases List.mem_append.1 hx with hx | hx
        · exact h.bd x hx
        · rw [List.mem_singleton] at hx; subst hx; decide
      · exact h.bd x hx
    · have h1 := h.atGrown (leastS st / 64)
      have := bit_or (x := (tk.getD (leastS st / 64) 0).toNat) (b := leastS st % 64) (by omega) (by omega)
      omega
  · rw [getD_set_list _ _ _ _ hlt, putS_used]
    by_cases e : n / 64 = leastS st / 64
    · rw [if_pos e, Int.toNat_natCast, bit_or_at, ← e, h.bitGrown n]
      by_cases e2 : n = leastS st
      · subst e2; simp
      · have : ¬ leastS st % 64 = n % 64 := by omega
        simp [this, e2]
    · rw [if_neg e, grownT_get, h.bitGrown n]
      have : ¬ n = leastS st := fun hh => e (by rw [hh])
      simp [this]
/-- The bit of a slot is cleared. -/
theorem Words.free {st : St} {tk : List Int} (h : Words st tk) (m : Nat) (hm : used st m = true) :
    Words (freeS st m) (tk.set (m / 64) (((tk.getD (m / 64) 0).toNat &&& (18446744073709551615 - 2 ^ (m % 64)) : Nat) : Int)) := by
  have h64 := h.len
  have hlm := used_lt hm
  have hlt : m / 64 < tk.length := by omega
  have hb := h.at _ hlt
  refine ⟨fun x hx => ?_, by rw [List.length_set, freeS_length]; exact h64, fun n hn => ?_⟩
  · rcases List.mem_or_eq_of_mem_set hx with hx | rfl
    · exact h.bd x hx
    · have : (tk.getD (m / 64) 0).toNat &&& (18446744073709551615 - 2 ^ (m % 64)) ≤ (tk.getD (m / 64) 0).toNat := Nat.and_le_left
      omega
  · rw [List.length_set] at hn
    rw [getD_set_list _ _ _ _ hlt, freeS_used]
    by_cases e : n / 64 = m / 64
    · have hc : (18446744073709551615 - 2 ^ (m % 64)).testBit (n % 64) = !decide (m % 64 = n % 64) := by
        have hp : 2 ^ (m % 64) < 2 ^ 64 := Nat.pow_lt_pow_right (by decide) (by omega)
        have h1 := Nat.testBit_two_pow_sub_succ (x := 2 ^ (m % 64)) (n := 64) hp (n % 64)
        have h2 : 2 ^ 64 - (2 ^ (m % 64) + 1) = 18446744073709551615 - 2 ^ (m % 64) := by omega
        rw [h2, Nat.testBit_two_pow] at h1
        rw [h1]
        have : n % 64 < 64 := by omega
        simp [this]
      rw [if_pos e, Int.toNat_natCast, Nat.testBit_and, hc, ← e, h.bitGrown n]
      by_cases e2 : n = m
      · subst e2; simp
      · have : ¬ m % 64 = n % 64 := by omega
        simp [this, e2]
    · rw [if_neg e, h.bitGrown n]
      have : ¬ n = m := fun hh => e (by rw [hh])
      simp [this]
/-- The numbers with room for the least slot; a vector copied there. -/
def grownA (st : St) (dim : Nat) (al : List Int) : List Int := if leastS st < st.length then al else al ++ List.replicate dim 0
def copyA (al : List Int) (o : Nat) (v : List Int) : List Int := al.take o ++ v ++ al.drop (o + v.length)
theorem grownA_length {st : St} {dim : Nat} {al : List Int} (h : NumsS st dim al) : (grownA st dim al).length = max st.length (leastS st + 1) * dim := by
  have := h.len; have hl := least_le st
  unfold grownA
  split
  · rename_i h1
    rw [h.len, show max st.length (leastS st + 1) = st.length by omega]
  · rename_i h1
    rw [List.length_append, List.length_replicate, h.len, show max st.length (leastS st + 1) = st.length + 1 by omega, Nat.succ_mul]
theorem copyA_length {al v : List Int} {o : Nat} (h : o + v.length ≤ al.length) : (copyA al o v).length = al.length := by
  simp [copyA]; omega
theorem slice_getD (l : List Int) (a b j : Nat) (hj : j < b) : ((l.drop a).take b)[j]? = l[a + j]? := by
  rw [List.getElem?_take, if_pos hj, List.getElem?_drop]
theorem copyA_get {al v : List Int} {o : Nat} (h : o + v.length ≤ al.length) (j : Nat) : (copyA al o v)[j]? = if o ≤ j ∧ j < o + v.length then v[j - o]? else al[j]? := by
  unfold copyA
  have ht : (al.take o).length = o := by rw [List.length_take]; omega
  by_cases h1 : j < o
  · rw [if_neg (by omega), List.append_assoc, List.getElem?_append_left (by omega), List.getElem?_take, if_pos h1]
  · by_cases h2 : j < o + v.length
    · rw [if_pos ⟨by omega, h2⟩, List.append_assoc, List.getElem?_append_right (by omega), ht, List.getElem?_append_left (by omega)]
    · rw [if_neg (by omega), List.append_assoc, List.getElem?_append_right (by omega), ht, List.getElem?_append_right (by omega), List.getElem?_drop]
      congr 1; omega
theorem NumsS.put {st : St} {dim : Nat} {al : List Int} (h : NumsS st dim al) (v : List Int) (hv : v.length = dim) (hd : 0 < dim) : NumsS (putS st v) dim (copyA (grownA st dim al) (leastS st * dim) v) := by
  have hl := least_le st
  have hg := grownA_length h
  have hle : leastS st * dim + v.length ≤ (grownA st dim al).length := by
    rw [hg, hv, ← Nat.succ_mul]
    exact Nat.mul_le_mul_right _ (by omega)
  refine ⟨by rw [copyA_length hle, hg, putS_length], fun n u hu => ?_⟩
  rw [putS_get] at hu
  have hal : ∀ j, j < al.length → (grownA st dim al)[j]? = al[j]? := fun j hj => by
    unfold grownA
    split
    · rfl
    · rw [List.getElem?_append_left hj]
  split at hu
  · rename_i e
    subst e
    injection hu with hu
    subst hu
    refine ⟨hv, ?_⟩
    apply List.ext_getElem?
    intro j
    rcases Nat.lt_or_ge j dim with h1 | h1
    · rw [slice_getD _ _ _ _ h1, copyA_get hle, if_pos ⟨by omega, by omega⟩]
      congr 1; omega
    · rw [List.getElem?_eq_none (by rw [List.length_take, List.length_drop, copyA_length hle]; omega), List.getElem?_eq_none (by omega)]
  · rename_i e
    obtain ⟨h1, h2⟩ := h.get n u hu
    refine ⟨h1, ?_⟩
    have hn : n < st.length := used_lt (by unfold used; rw [hu]; rfl)
    have hb : n * dim + dim ≤ al.length := by
      rw [h.len, ← Nat.succ_mul]; exact Nat.mul_le_mul_right _ (by omega)
    rw [← h2]
    apply List.ext_getElem?
    intro j
    rcases Nat.lt_or_ge j dim with h3 | h3
    · rw [slice_getD _ _ _ _ h3, slice_getD _ _ _ _ h3, copyA_get hle, if_neg, hal _ (by omega)]
      intro ⟨q1, q2⟩
      rw [hv] at q2
      rcases Nat.lt_or_ge n (leastS st) with h4 | h4
      · have : n * dim + dim ≤ leastS st * dim := by rw [← Nat.succ_mul]; exact Nat.mul_le_mul_right _ h4
        omega
      · have : leastS st * dim + dim ≤ n * dim := by rw [← Nat.succ_mul]; exact Nat.mul_le_mul_right _ (by omega)
        omega
    · rw [List.getElem?_eq_none (by rw [List.length_take]; omega), List.getElem?_eq_none (by rw [List.length_take]; omega)]
theorem NumsS.free {st : St} {dim : Nat} {al : List Int} (h : NumsS st dim al) (m : Nat) : NumsS (freeS st m) dim al := by
  refine ⟨by rw [freeS_length]; exact h.len, fun n u hu => ?_⟩
  rw [freeS_get] at hu
  split at hu
  · cases hu
  · exact h.get n u hu
end Go.Proofs.YtcmdjnllpcnpjaaDoor
