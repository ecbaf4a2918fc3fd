import Derived.Test.YtipjmglieedimaaMem
namespace Go.Proofs.Ytipjmglieedimaa
set_option linter.unusedVariables false
set_option linter.unusedSimpArgs false
/-- One move of a register. -/
def mv (s : BitVec 32) : BitVec 32 := if s.getLsbD 0 then (s >>> 1) ^^^ 0x82f63b78#32 else s >>> 1
theorem mv_xor (a b : BitVec 32) : mv (a ^^^ b) = mv a ^^^ mv b := by
  unfold mv
  rw [BitVec.getLsbD_xor, BitVec.ushiftRight_xor_distrib]
  generalize 0x82f63b78#32 = p
  generalize a >>> 1 = x
  generalize b >>> 1 = y
  cases a.getLsbD 0 <;> cases b.getLsbD 0 <;> simp
  · rw [BitVec.xor_assoc]
  · rw [BitVec.xor_assoc, BitVec.xor_comm y p, ← BitVec.xor_assoc]
  · rw [BitVec.xor_assoc x p, ← BitVec.xor_assoc p y, BitVec.xor_comm p y, BitVec.xor_assoc y, BitVec.xor_self, BitVec.xor_zero]
theorem mv_zero : mv 0#32 = 0#32 := by decide
theorem mv_inj {s : BitVec 32} (h : mv s = 0#32) : s = 0#32 := by
  unfold mv at h
  split at h
  · rename_i h0
    exfalso
    have := congrArg (·.getLsbD 31) h
    rw [BitVec.getLsbD_xor, BitVec.getLsbD_ushiftRight] at this
    simp at this
  · rename_i h0
    apply BitVec.eq_of_getLsbD_eq
    intro i hi
    cases i with
    | zero => simpa using h0
    | succ i =>
      have := congrArg (·.getLsbD i) h
      simpa [BitVec.getLsbD_ushiftRight, Nat.add_comm] using this
/-- n moves. -/
def mvN : Nat → BitVec 32 → BitVec 32
  | 0, s => s
  | n + 1, s => mvN n (mv s)
theorem mvN_add (n m : Nat) (s : BitVec 32) : mvN (n + m) s = mvN m (mvN n s) := by
  induction n generalizing s with
  | zero => simp [mvN]
  | succ n ih => rw [Nat.succ_add]; exact ih (mv s)
theorem mvN_xor (n : Nat) (a b : BitVec 32) : mvN n (a ^^^ b) = mvN n a ^^^ mvN n b := by
  induction n generalizing a b with
  | zero => rfl
  | succ n ih => simp only [mvN, mv_xor, ih]
theorem mvN_zero (n : Nat) : mvN n 0#32 = 0#32 := by
  induction n with
  | zero => rfl
  | succ n ih => simp only [mvN, mv_zero, ih]
theorem mvN_inj {n : Nat} {s : BitVec 32} (h : mvN n s = 0#32) : s = 0#32 := by
  induction n generalizing s with
  | zero => exact h
  | succ n ih => exact mv_inj (ih h)
theorem mvN_succ (n : Nat) (s : BitVec 32) : mvN (n + 1) s = mv (mvN n s) := by rw [mvN_add]; rfl
/-- Low bits that are nought: a shift. -/
theorem mvN_high (k : Nat) (h : BitVec 32) (hz : ∀ i, i < k → h.getLsbD i = false) : mvN k h = h >>> k := by
  induction k generalizing h with
  | zero => simp [mvN]
  | succ k ih =>
    have h0 := hz 0 (by omega)
    have hm : mv h = h >>> 1 := by unfold mv; rw [if_neg (by rw [h0]; decide)]
    rw [mvN, hm, ih (h >>> 1) (fun i hi => by rw [BitVec.getLsbD_ushiftRight]; exact hz _ (by omega)), ← BitVec.shiftRight_add]
    congr 1; omega
/-- n bytes of noughts. -/
def TN (n : Nat) (s : BitVec 32) : BitVec 32 := mvN (8 * n) s
theorem TN_xor (n : Nat) (a b : BitVec 32) : TN n (a ^^^ b) = TN n a ^^^ TN n b := mvN_xor _ _ _
theorem TN_zero (n : Nat) : TN n 0#32 = 0#32 := mvN_zero _
theorem TN_add (n m : Nat) (s : BitVec 32) : TN (n + m) s = TN m (TN n s) := by unfold TN; rw [Nat.mul_add, mvN_add]
/-- A byte as a register. -/
def by32 (c : Int) : BitVec 32 := BitVec.ofNat 32 c.toNat
/-- The register behind bytes. -/
def feed (r : BitVec 32) (b : List Int) : BitVec 32 := b.foldl (fun r c => mvN 8 (r ^^^ by32 c)) r
theorem feed_append (r : BitVec 32) (a b : List Int) : feed r (a ++ b) = feed (feed r a) b := by simp [feed]
theorem feed_cons (r : BitVec 32) (c : Int) (b : List Int) : feed r (c :: b) = feed (mvN 8 (r ^^^ by32 c)) b := rfl
theorem feed_lin (r : BitVec 32) (b : List Int) : feed r b = TN b.length r ^^^ feed 0#32 b := by
  induction b generalizing r with
  | nil => simp [feed, TN, mvN]
  | cons c b ih =>
    rw [feed_cons, feed_cons, ih, ih (mvN 8 (0#32 ^^^ by32 c)), BitVec.zero_xor, mvN_xor, TN_xor, BitVec.xor_assoc]
    rfl
theorem feed_noughts (r : BitVec 32) (k : Nat) : feed r (List.replicate k 0) = TN k r := by
  induction k generalizing r with
  | zero => rfl
  | succ k ih =>
    rw [List.replicate_succ, feed_cons, ih]
    have : by32 0 = 0#32 := by decide
    rw [this, BitVec.xor_zero]
    unfold TN
    rw [← mvN_add]
    congr 1; omega
/-- More and Of. -/
def more (s : BitVec 32) (b : List Int) : BitVec 32 := ~~~ feed (~~~ s) b
def noughts (s : BitVec 32) (n : Nat) : BitVec 32 := ~~~ TN n (~~~ s)
def join (a b : BitVec 32) (n : Nat) : BitVec 32 := TN n a ^^^ b
theorem more_append (s : BitVec 32) (a b : List Int) : more (more s a) b = more s (a ++ b) := by
  unfold more; rw [BitVec.not_not, feed_append]
theorem not_eq (a : BitVec 32) : ~~~ a = a ^^^ BitVec.allOnes 32 := by rw [BitVec.xor_allOnes]
theorem join_more (a b : List Int) : join (more 0#32 a) (more 0#32 b) b.length = more 0#32 (a ++ b) := by
  unfold join more
  rw [feed_append, feed_lin (feed _ a) b, feed_lin (~~~ 0#32) b, not_eq (feed _ a), TN_xor, not_eq (_ ^^^ _), not_eq (_ ^^^ feed 0#32 b)]
  have : (~~~ 0#32 : BitVec 32) = BitVec.allOnes 32 := by decide
  rw [this]
  generalize TN b.length (feed _ a) = x
  generalize TN b.length (BitVec.allOnes 32) = y
  generalize feed 0#32 b = z
  generalize BitVec.allOnes 32 = o
  rw [BitVec.xor_assoc x y, BitVec.xor_assoc y z o, ← BitVec.xor_assoc y y, BitVec.xor_self, BitVec.zero_xor, BitVec.xor_assoc]
theorem noughts_add (s : BitVec 32) (n m : Nat) : noughts (noughts s n) m = noughts s (n + m) := by unfold noughts; rw [BitVec.not_not, TN_add]
theorem noughts_more (b : List Int) (k : Nat) : noughts (more 0#32 b) k = more 0#32 (b ++ List.replicate k 0) := by
  unfold noughts more; rw [BitVec.not_not, feed_append, feed_noughts]
theorem join_join (a b c : BitVec 32) (n m : Nat) : join (join a b n) c m = join a (join b c m) (n + m) := by
  unfold join; rw [TN_xor, TN_add, BitVec.xor_assoc]
theorem join_zero (b : BitVec 32) (n : Nat) : join 0#32 b n = b := by unfold join; rw [TN_zero, BitVec.zero_xor]
/-- The table. -/
theorem tab_step (s c : BitVec 32) (hc : c.toNat < 256) : mvN 8 (s ^^^ c) = mvN 8 ((s ^^^ c) &&& 255#32) ^^^ (s >>> 8) := by
  have hsplit : s ^^^ c = ((s ^^^ c) &&& 255#32) ^^^ ((s >>> 8) <<< 8) := by
    apply BitVec.eq_of_getLsbD_eq
    intro i hi
    have hcb : 8 ≤ i → c.getLsbD i = false := fun h8 => by
      exact Nat.testBit_lt_two_pow (Nat.lt_of_lt_of_le hc (Nat.pow_le_pow_right (n := 2) (by decide) h8 : 2 ^ 8 ≤ 2 ^ i))
    have h255 : (255#32).getLsbD i = decide (i < 8) := by
      have : ∀ j : Fin 32, (255#32).getLsbD j = decide (j.val < 8) := by decide
      exact this ⟨i, hi⟩
    rw [BitVec.getLsbD_xor, BitVec.getLsbD_xor, BitVec.getLsbD_and, BitVec.getLsbD_xor, h255, BitVec.getLsbD_shiftLeft, BitVec.getLsbD_ushiftRight]
    by_cases h8 : i < 8
    · simp [h8]
    · have : 8 + (i - 8) = i := by omega
      rw [this, hcb (by omega)]; simp [h8, hi]
  have hhigh : mvN 8 ((s >>> 8) <<< 8) = s >>> 8 := by
    rw [mvN_high 8 _ (fun i hi => by rw [BitVec.getLsbD_shiftLeft]; simp [hi])]
    apply BitVec.eq_of_getLsbD_eq
    intro i hi
    rw [BitVec.getLsbD_ushiftRight, BitVec.getLsbD_shiftLeft, BitVec.getLsbD_ushiftRight]
    by_cases h : 8 + i < 32
    · simp [h]
    · simp [h]
      have : s.getLsbD (8 + i) = false := BitVec.getLsbD_of_ge _ _ (by omega)
      exact this.symm ▸ rfl
  rw [hsplit, mvN_xor, hhigh, ← hsplit]
/-- A map's bits. -/
def low (k : Nat) (s : BitVec 32) : BitVec 32 := BitVec.ofNat 32 (s.toNat % 2 ^ k)
theorem low_succ (k : Nat) (s : BitVec 32) : low (k + 1) s = if s.getLsbD k then low k s ^^^ (1#32 <<< k) else low k s := by
  apply BitVec.eq_of_getLsbD_eq
  intro i hi
  have h1 : ∀ k, (low k s).getLsbD i = (decide (i < k) && s.getLsbD i) := fun k => by
    unfold low
    rw [BitVec.getLsbD_ofNat, Nat.testBit_mod_two_pow]
    simp [hi, BitVec.getLsbD]
  have h2 : (1#32 <<< k).getLsbD i = decide (i = k) := by
    rw [BitVec.getLsbD_shiftLeft]
    by_cases hk : i = k
    · subst hk; simp [hi]
    · by_cases hlt : i < k
      · simp [hlt, hk]
      · have : (1#32).getLsbD (i - k) = false := by
          rw [BitVec.getLsbD_one]; simp; omega
        simp [hi, hlt, hk]; omega
  split
  · rename_i hb
    rw [BitVec.getLsbD_xor, h1, h1, h2]
    by_cases hk : i = k
    · subst hk; simp [hb]
    · by_cases hlt : i < k
      · simp [hlt, hk, show i < k + 1 by omega]
      · simp [hlt, hk, show ¬ i < k + 1 by omega]
  · rename_i hb
    rw [h1, h1]
    by_cases hk : i = k
    · subst hk; simp at hb; simp [hb]
    · by_cases hlt : i < k
      · simp [hlt, show i < k + 1 by omega]
      · simp [hlt, show ¬ i < k + 1 by omega]
theorem low_zero (s : BitVec 32) : low 0 s = 0#32 := by simp [low, Nat.mod_one]
theorem low_all (s : BitVec 32) : low 32 s = s := by unfold low; rw [Nat.mod_eq_of_lt s.isLt]; simp
/-- Part of a register, through n noughts, and one bit more. -/
theorem TN_low (n k : Nat) (s : BitVec 32) : TN n (low (k + 1) s) = if s.getLsbD k then TN n (low k s) ^^^ TN n (1#32 <<< k) else TN n (low k s) := by
  rw [low_succ]; split
  · rw [TN_xor]
  · rfl
end Go.Proofs.Ytipjmglieedimaa
