import Derived.Test.YtipjmglieedimaaSum1
namespace Go.Proofs.Ytipjmglieedimaa
set_option linter.unusedVariables false
set_option linter.unusedSimpArgs false
open Go.RowKit
/-- Exclusive or of bytes, as registers. -/
theorem by32_xor {x y : Int} (hx : 0 ≤ x ∧ x ≤ 255) (hy : 0 ≤ y ∧ y ≤ 255) : by32 (bits .xor .u8 x y) = by32 x ^^^ by32 y := by
  rw [u8_xor x y hx.1 (by omega) hy.1 (by omega)]
  apply BitVec.eq_of_toNat_eq
  rw [BitVec.toNat_xor, by32_toNat hx.1 hx.2, by32_toNat hy.1 hy.2]
  unfold by32
  rw [BitVec.toNat_ofNat, Int.toNat_natCast, Nat.mod_eq_of_lt]
  exact Nat.xor_lt_two_pow (by omega) (by omega)
theorem xor_byte {x y : Int} (hx : 0 ≤ x ∧ x ≤ 255) (hy : 0 ≤ y ∧ y ≤ 255) : 0 ≤ bits .xor .u8 x y ∧ bits .xor .u8 x y ≤ 255 := by
  rw [u8_xor x y hx.1 (by omega) hy.1 (by omega)]
  have : x.toNat ^^^ y.toNat < 2 ^ 8 := Nat.xor_lt_two_pow (by omega) (by omega)
  omega
def xorL (a b : List Int) : List Int := List.zipWith (fun x y => bits .xor .u8 x y) a b
theorem feed_xorL : ∀ (a b : List Int) (r q : BitVec 32), a.length = b.length → Bytes a → Bytes b → feed (r ^^^ q) (xorL a b) = feed r a ^^^ feed q b
  | [], [], r, q, _, _, _ => by simp [feed, xorL]
  | x :: a, y :: b, r, q, h, ha, hb => by
    have e : xorL (x :: a) (y :: b) = bits .xor .u8 x y :: xorL a b := rfl
    rw [e, feed_cons, feed_cons, feed_cons, by32_xor (ha x (by simp)) (hb y (by simp)), ← feed_xorL a b _ _ (by simpa using h) (fun z hz => ha z (by simp [hz])) (fun z hz => hb z (by simp [hz])), ← mvN_xor]
    congr 2
    rw [BitVec.xor_assoc, BitVec.xor_assoc, ← BitVec.xor_assoc q, BitVec.xor_comm q, BitVec.xor_assoc (by32 x)]
/-- Bit p of bytes. -/
def bt (b : List Int) (p : Nat) : Bool := (by32 (b.getD (p / 8) 0)).getLsbD (p % 8)
theorem by32_high {c : Int} (h : 0 ≤ c ∧ c ≤ 255) {i : Nat} (hi : 8 ≤ i) : (by32 c).getLsbD i = false := by
  have : (by32 c).toNat < 2 ^ 8 := by rw [by32_toNat h.1 h.2]; omega
  exact Nat.testBit_lt_two_pow (Nat.lt_of_lt_of_le this (Nat.pow_le_pow_right (by decide) hi))
theorem bt_tail (c : Int) (D : List Int) (p : Nat) : bt (c :: D) (p + 8) = bt D p := by
  unfold bt
  rw [show (p + 8) / 8 = p / 8 + 1 by omega, show (p + 8) % 8 = p % 8 by omega]; rfl
theorem bt_head (c : Int) (D : List Int) {p : Nat} (h : p < 8) : bt (c :: D) p = (by32 c).getLsbD p := by
  unfold bt
  rw [show p / 8 = 0 by omega, show p % 8 = p by omega]; rfl
theorem mv8_split (k : Nat) (hk : k ≤ 8) (r V c : BitVec 32) (hc : ∀ i, i < k → c.getLsbD i = V.getLsbD i) (hc2 : ∀ i, k ≤ i → c.getLsbD i = false) : mvN k (r ^^^ V) = mvN k (r ^^^ c) ^^^ (V >>> k) := by
  have hsplit : V = c ^^^ ((V >>> k) <<< k) := by
    apply BitVec.eq_of_getLsbD_eq
    intro i hi
    rw [BitVec.getLsbD_xor, BitVec.getLsbD_shiftLeft, BitVec.getLsbD_ushiftRight]
    by_cases h : i < k
    · rw [hc i h]; simp [h]
    · rw [hc2 i (by omega), show k + (i - k) = i by omega]; simp [h, hi, BitVec.getLsbD]
  have hh : mvN k ((V >>> k) <<< k) = V >>> k := by
    rw [mvN_high k _ (fun i hi => by rw [BitVec.getLsbD_shiftLeft]; simp [hi])]
    apply BitVec.eq_of_getLsbD_eq
    intro i hi
    rw [BitVec.getLsbD_ushiftRight, BitVec.getLsbD_shiftLeft, BitVec.getLsbD_ushiftRight]
    by_cases h : k + i < 32
    · simp [h]
    · have : V.getLsbD (k + i) = false := BitVec.getLsbD_of_ge _ _ (by omega)
      simp [h, this]
  have : r ^^^ V = (r ^^^ c) ^^^ ((V >>> k) <<< k) := by rw [BitVec.xor_assoc, ← hsplit]
  rw [this, mvN_xor, hh]
/-- Bytes whose bits are those of a word, from the first on. -/
theorem feed_word : ∀ (D : List Int) (V r : BitVec 32), Bytes D → (∀ p, p < 8 * D.length → bt D p = V.getLsbD p) → (∀ i, 8 * D.length ≤ i → V.getLsbD i = false) → feed r D = mvN (8 * D.length) (r ^^^ V)
  | [], V, r, _, _, h2 => by
    have : V = 0#32 := by apply BitVec.eq_of_getLsbD_eq; intro i hi; rw [h2 i (by simp)]; simp
    rw [this, BitVec.xor_zero]; rfl
  | c :: D, V, r, hb, h1, h2 => by
    have hc := hb c (by simp)
    rw [feed_cons, feed_word D (V >>> 8) _ (fun z hz => hb z (by simp [hz]))
      (fun p hp => by rw [← bt_tail c D p, h1 (p + 8) (by simp; omega), BitVec.getLsbD_ushiftRight, Nat.add_comm])
      (fun i hi => by rw [BitVec.getLsbD_ushiftRight]; exact h2 _ (by simp; omega))]
    rw [← mv8_split 8 (Nat.le_refl _) r V (by32 c) (fun i hi => by rw [← bt_head c D hi]; exact h1 i (by simp; omega)) (fun i hi => by32_high hc hi), ← mvN_add]
    congr 1; simp; omega
theorem feed_burst : ∀ (D : List Int) (V : BitVec 32) (at_ : Nat), Bytes D → at_ < 8 * D.length → (∀ p, p < 8 * D.length → bt D p = (decide (at_ ≤ p) && V.getLsbD (p - at_))) → (∀ i, 8 * D.length ≤ at_ + i → V.getLsbD i = false) → feed 0#32 D = mvN (8 * D.length - at_) V
  | [], _, _, _, ha, _, _ => by simp at ha
  | c :: D, V, at_, hb, ha, h1, h2 => by
    have hc := hb c (by simp)
    have hbD : Bytes D := fun z hz => hb z (by simp [hz])
    have hlen : 8 * (c :: D).length = 8 * D.length + 8 := by simp; omega
    rw [feed_cons, BitVec.zero_xor]
    by_cases h8 : 8 ≤ at_
    · have hz : by32 c = 0#32 := by
        apply BitVec.eq_of_getLsbD_eq
        intro i hi
        by_cases hi8 : i < 8
        · rw [← bt_head c D hi8, h1 i (by omega)]
          simp [show ¬ at_ ≤ i by omega]
        · rw [by32_high hc (by omega)]; simp
      rw [hz, mvN_zero, feed_burst D V (at_ - 8) hbD (by omega) (fun p hp => by
        rw [← bt_tail c D p, h1 (p + 8) (by omega), show p + 8 - at_ = p - (at_ - 8) by omega]
        congr 1
        exact decide_eq_decide.2 (by omega)) (fun i hi => h2 i (by omega))]
      congr 1; omega
    · have hlow : ∀ i, i < at_ → (by32 c).getLsbD i = false := fun i hi => by
        rw [← bt_head c D (by omega), h1 i (by omega)]; simp [show ¬ at_ ≤ i by omega]
      have e1 : mvN 8 (by32 c) = mvN (8 - at_) (by32 c >>> at_) := by
        rw [show 8 = at_ + (8 - at_) by omega, mvN_add, mvN_high at_ _ hlow]
        congr 1; omega
      have e2 := mv8_split (8 - at_) (by omega) 0#32 V (by32 c >>> at_) (fun i hi => by
        rw [BitVec.getLsbD_ushiftRight, ← bt_head c D (by omega), h1 (at_ + i) (by omega), show at_ + i - at_ = i by omega]
        simp) (fun i hi => by rw [BitVec.getLsbD_ushiftRight]; exact by32_high hc (by omega))
      rw [BitVec.zero_xor, BitVec.zero_xor] at e2
      rw [feed_word D (V >>> (8 - at_)) _ hbD (fun p hp => by
          rw [← bt_tail c D p, h1 (p + 8) (by omega), BitVec.getLsbD_ushiftRight, show p + 8 - at_ = 8 - at_ + p by omega]
          simp [show at_ ≤ p + 8 by omega])
        (fun i hi => by rw [BitVec.getLsbD_ushiftRight]; exact h2 _ (by omega)), e1, ← e2, ← mvN_add]
      congr 1; omega
/-- Bytes are told by their bits. -/
theorem bytes_ext {b c : List Int} (hb : Bytes b) (hc : Bytes c) (hl : b.length = c.length) (h : ∀ p, p < 8 * b.length → bt b p = bt c p) : b = c := by
  apply List.ext_getElem hl
  intro k h1 h2
  have hx := hb _ (List.getElem_mem h1)
  have hy := hc _ (List.getElem_mem h2)
  have : by32 b[k] = by32 c[k] := by
    apply BitVec.eq_of_getLsbD_eq
    intro i hi
    by_cases h8 : i < 8
    · have := h (8 * k + i) (by omega)
      unfold bt at this
      rw [show (8 * k + i) / 8 = k by omega, show (8 * k + i) % 8 = i by omega] at this
      simpa [List.getD_eq_getElem?_getD, h1, h2] using this
    · rw [by32_high hx (by omega), by32_high hy (by omega)]
  have e := congrArg BitVec.toNat this
  rw [by32_toNat hx.1 hx.2, by32_toNat hy.1 hy.2] at e
  omega
theorem bt_xorL {a b : List Int} (hl : a.length = b.length) (ha : Bytes a) (hb : Bytes b) {p : Nat} (hp : p < 8 * a.length) : bt (xorL a b) p = (bt a p ^^ bt b p) := by
  have h1 : p / 8 < a.length := by omega
  have h2 : p / 8 < b.length := by omega
  unfold bt xorL
  have e : (List.zipWith (fun x y => bits .xor .u8 x y) a b).getD (p / 8) 0 = bits .xor .u8 (a.getD (p / 8) 0) (b.getD (p / 8) 0) := by
    simp [List.getD_eq_getElem?_getD, List.getElem?_zipWith, h1, h2]
  rw [e, by32_xor (ha.getD h1) (hb.getD h2), BitVec.getLsbD_xor]
theorem xorL_bytes {a b : List Int} (ha : Bytes a) (hb : Bytes b) : Bytes (xorL a b) := by
  intro x hx
  obtain ⟨i, hi, rfl⟩ := List.mem_iff_getElem.1 hx
  unfold xorL at hi ⊢
  simp at hi
  rw [List.getElem_zipWith]
  exact xor_byte (ha _ (List.getElem_mem _)) (hb _ (List.getElem_mem _))
/-- THE LAW: changed bits within 32 change the sum. -/
theorem burst {b c : List Int} (hl : c.length = b.length) (hb : Bytes b) (hc : Bytes c) (at_ : Nat) (hat : at_ < 8 * b.length) (V : BitVec 32)
    (h : ∀ p, p < 8 * b.length → bt c p = (bt b p ^^ (decide (at_ ≤ p) && V.getLsbD (p - at_)))) (hV : ∀ i, 8 * b.length ≤ at_ + i → V.getLsbD i = false) : more 0#32 c = more 0#32 b ↔ b = c := by
  constructor
  · intro he
    unfold more at he
    have he2 : feed (~~~ 0#32) c = feed (~~~ 0#32) b := by have := congrArg (~~~ ·) he; simpa using this
    have hx := feed_xorL b c (~~~ 0#32) (~~~ 0#32) hl.symm hb hc
    rw [he2, BitVec.xor_self, BitVec.xor_self] at hx
    have hxl : (xorL b c).length = b.length := by simp [xorL, hl]
    have hD := feed_burst (xorL b c) V at_ (xorL_bytes hb hc) (by omega) (fun p hp => by
      rw [bt_xorL hl.symm hb hc (by omega), h p (by omega), ← Bool.xor_assoc, Bool.xor_self, Bool.false_xor]) (fun i hi => hV i (by omega))
    rw [hx] at hD
    have hV0 := mvN_inj hD.symm
    apply bytes_ext hb hc hl.symm
    intro p hp
    rw [h p hp, hV0]; simp
  · rintro rfl; rfl
theorem low_bit {k : Nat} (hk : k ≤ 32) (V : BitVec 32) (i : Nat) : (low k V).getLsbD i = (decide (i < k) && V.getLsbD i) := by
  by_cases hi : i < 32
  · unfold low
    rw [BitVec.getLsbD_ofNat, Nat.testBit_mod_two_pow]
    simp [hi, BitVec.getLsbD]
  · rw [BitVec.getLsbD_of_ge _ _ (by omega)]; simp; omega
theorem pow_byte {j : Nat} (hj : j < 8) : (2 ^ j % 256 : Int) = ((2 ^ j : Nat) : Int) ∧ 2 ^ j < 256 := by
  have : 2 ^ j < 2 ^ 8 := Nat.pow_lt_pow_right (by decide) hj
  have h2 : 2 ^ j < 256 := this
  refine ⟨?_, h2⟩
  have h3 : (2 : Int) ^ j = ((2 ^ j : Nat) : Int) := by rw [Int.natCast_pow]; rfl
  rw [h3]
  generalize 2 ^ j = m at *
  omega
theorem by32_pow {j : Nat} (hj : j < 8) (i : Nat) : (by32 (2 ^ j % 256)).getLsbD i = decide (i = j) := by
  obtain ⟨h1, h2⟩ := pow_byte hj
  rw [h1]
  unfold by32
  rw [Int.toNat_natCast, BitVec.getLsbD_ofNat, Nat.testBit_two_pow]
  by_cases h : i = j
  · subst h; simp; omega
  · simp [h]; omega
theorem bt_flip {ys : List Int} (hb : Bytes ys) {q : Nat} (hq : q < 8 * ys.length) {p : Nat} (hp : p < 8 * ys.length) : bt (ys.set (q / 8) (bits .xor .u8 (ys.getD (q / 8) 0) (2 ^ (q % 8) % 256))) p = (bt ys p ^^ decide (p = q)) := by
  have hpw := pow_byte (show q % 8 < 8 by omega)
  unfold bt
  by_cases h : p / 8 = q / 8
  · rw [h]
    have e : (ys.set (q / 8) (bits .xor .u8 (ys.getD (q / 8) 0) (2 ^ (q % 8) % 256))).getD (q / 8) 0 = bits .xor .u8 (ys.getD (q / 8) 0) (2 ^ (q % 8) % 256) := by
      simp [List.getD_eq_getElem?_getD, show q / 8 < ys.length by omega]
    rw [e, by32_xor (hb.getD (by omega)) (by rw [hpw.1]; have := hpw.2; omega), BitVec.getLsbD_xor, by32_pow (by omega)]
    congr 1
    exact decide_eq_decide.2 (by omega)
  · have e : (ys.set (q / 8) (bits .xor .u8 (ys.getD (q / 8) 0) (2 ^ (q % 8) % 256))).getD (p / 8) 0 = ys.getD (p / 8) 0 := by
      simp [List.getD_eq_getElem?_getD, List.getElem?_set_ne (Ne.symm h)]
    rw [e, show decide (p = q) = false by simp; intro h'; subst h'; exact h rfl, Bool.xor_false]
theorem flip_bytes {ys : List Int} (hb : Bytes ys) {q : Nat} (hq : q < 8 * ys.length) : Bytes (ys.set (q / 8) (bits .xor .u8 (ys.getD (q / 8) 0) (2 ^ (q % 8) % 256))) := by
  intro x hx
  rcases List.mem_or_eq_of_mem_set hx with h | h
  · exact hb x h
  · have hpw := pow_byte (show q % 8 < 8 by omega)
    rw [h]; exact xor_byte (hb.getD (by omega)) (by rw [hpw.1]; have := hpw.2; omega)
theorem flip_next {b ys : List Int} {at_ k : Nat} {V : BitVec 32} (hk : k < 32) (hvk : V.getLsbD k = true) (hl : ys.length = b.length) (hb : Bytes ys) (hq : at_ + k < 8 * b.length)
    (h : ∀ p, p < 8 * b.length → bt ys p = (bt b p ^^ (decide (at_ ≤ p) && (low k V).getLsbD (p - at_)))) :
    ∀ p, p < 8 * b.length → bt (ys.set ((at_ + k) / 8) (bits .xor .u8 (ys.getD ((at_ + k) / 8) 0) (2 ^ ((at_ + k) % 8) % 256))) p = (bt b p ^^ (decide (at_ ≤ p) && (low (k + 1) V).getLsbD (p - at_))) := by
  intro p hp
  rw [bt_flip hb (by omega) (by omega), h p hp, low_bit (by omega), low_bit (by omega), Bool.xor_assoc]
  congr 1
  by_cases h1 : at_ ≤ p
  · by_cases h2 : p - at_ = k
    · rw [h2, hvk]; simp [h1, show p = at_ + k by omega]
    · have h3 : ¬ p = at_ + k := by omega
      have h4 : decide (p - at_ < k + 1) = decide (p - at_ < k) := decide_eq_decide.2 (by omega)
      simp [h1, h3, h4]
  · have h3 : ¬ p = at_ + k := by omega
    simp [h1, h3]
end Go.Proofs.Ytipjmglieedimaa
