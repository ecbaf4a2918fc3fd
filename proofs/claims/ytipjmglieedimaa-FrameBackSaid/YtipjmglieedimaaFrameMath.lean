import Derived.Test.YtipjmglieedimaaFrame0
namespace Go.Proofs.Ytipjmglieedimaa
set_option linter.unusedVariables false
set_option linter.unusedSimpArgs false
/-! frame: plain laws. -/
theorem ofB_inj : ∀ {a b : List Int}, a.length = b.length → Bytes a → Bytes b → Oct.ofB a = Oct.ofB b → a = b
  | [], [], _, _, _, _ => rfl
  | [], _ :: _, h, _, _, _ => by simp at h
  | _ :: _, [], h, _, _, _ => by simp at h
  | x :: a, y :: b, h, ha, hb, e => by
    have hx := ha x (List.mem_cons_self ..)
    have hy := hb y (List.mem_cons_self ..)
    rw [Oct.ofB, Oct.ofB] at e
    have e1 : x = y := by omega
    have e2 : Oct.ofB a = Oct.ofB b := by omega
    rw [e1, ofB_inj (by simpa using h) (fun z hz => ha z (List.mem_cons_of_mem _ hz)) (fun z hz => hb z (List.mem_cons_of_mem _ hz)) e2]
theorem ofB_lowB4 {x : Int} (h0 : 0 ≤ x) (h1 : x ≤ 4294967295) : Oct.ofB (Oct.lowB x 4) = x := by
  simp only [Oct.lowB, List.range_succ, List.range_zero, List.nil_append, List.map_append, List.map_cons, List.map_nil, List.cons_append, Oct.ofB]
  omega
theorem lowB4_ofB {S : List Int} (h : S.length = 4) (hb : Bytes S) : Oct.lowB (Oct.ofB S) 4 = S := by
  have h0 := Oct.ofB_nonneg S (fun x hx => (hb x hx).1)
  have h1 := Oct.ofB_lt S hb
  rw [h] at h1
  exact ofB_inj (by rw [Oct.lowB_length, h]) (lowB_bytes _ _) hb (ofB_lowB4 h0 (by omega))
/-- Where a head, four bytes and a payload stand first. -/
theorem oneR_of {L S p : List Int} (rest : List Int) (hL : L.length = 4) (hS : S.length = 4) (hn : Oct.ofB L = p.length) (hp : p.length ≤ 33554432) :
    oneR (L ++ S ++ p ++ rest) = if uv (more 0#32 (L ++ p)) = Oct.ofB S then (p, 8 + (p.length : Int), 0) else ([], 0, 4) := by
  have e1 : (L ++ S ++ p ++ rest).take 4 = L := by rw [List.append_assoc, List.append_assoc, List.take_append_of_le_length (by omega), List.take_of_length_le (by omega)]
  have e2 : (L ++ S ++ p ++ rest).drop 4 = S ++ (p ++ rest) := by rw [List.append_assoc, List.append_assoc, List.drop_append_of_le_length (by omega), List.drop_of_length_le (by omega), List.nil_append]
  have e3 : (L ++ S ++ p ++ rest).drop 8 = p ++ rest := by rw [show 8 = 4 + 4 from rfl, ← List.drop_drop, e2, List.drop_append_of_le_length (by omega), List.drop_of_length_le (by omega), List.nil_append]
  have e4 : (S ++ (p ++ rest)).take 4 = S := by rw [List.take_append_of_le_length (by omega), List.take_of_length_le (by omega)]
  have e5 : (p ++ rest).take p.length = p := by rw [List.take_append_of_le_length (Nat.le_refl _), List.take_of_length_le (Nat.le_refl _)]
  have e6 : (L ++ S ++ p ++ rest).length = 8 + p.length + rest.length := by simp; omega
  unfold oneR
  rw [e1, e2, e3, e4, e6, hn, Int.toNat_natCast, e5, if_neg (by omega), if_neg (by omega), if_neg (by omega)]
  by_cases h : uv (more 0#32 (L ++ p)) = Oct.ofB S
  · rw [if_neg (by simp [h]), if_pos h]
  · rw [if_pos h, if_neg h]
theorem ofB_len4 {n : Nat} (h : n ≤ 33554432) : Oct.ofB (len4 n) = n := ofB_lowB4 (by omega) (by omega)
/-- A frame is read. -/
theorem oneR_frm {p : List Int} (rest : List Int) (hp : p.length ≤ 33554432) : oneR (frm p ++ rest) = (p, 8 + (p.length : Int), 0) := by
  have := uv_range (sealV p)
  unfold frm
  rw [oneR_of rest (len4_len _) (Oct.lowB_length _ _) (ofB_len4 hp) hp, ofB_lowB4 (by omega) (by omega), if_pos]
  rfl
theorem xor8_zero {x y : Int} (hx : 0 ≤ x ∧ x ≤ 255) (hy : 0 ≤ y ∧ y ≤ 255) (h : bits .xor .u8 x y = x) : y = 0 := by
  have h1 := by32_xor hx hy
  rw [h] at h1
  have h2 : by32 y = 0#32 := by
    have h3 := congrArg (by32 x ^^^ ·) h1
    simp only [BitVec.xor_self, ← BitVec.xor_assoc, BitVec.zero_xor] at h3
    exact h3.symm
  have h4 := congrArg BitVec.toNat h2
  rw [by32_toNat hy.1 hy.2] at h4
  simp at h4
  omega
theorem xor8_self {x : Int} (hx : 0 ≤ x ∧ x ≤ 255) : bits .xor .u8 x 0 = x := by
  have h0 : (0 : Int) ≤ 0 ∧ (0 : Int) ≤ 255 := by decide
  have h1 := by32_xor hx h0
  rw [show by32 0 = 0#32 from rfl, BitVec.xor_zero] at h1
  have h2 := congrArg BitVec.toNat h1
  have h3 := xor_byte hx h0
  rw [by32_toNat hx.1 hx.2, by32_toNat h3.1 h3.2] at h2
  omega
/-- The sum's bytes, changed. -/
def chg (F ys : List Int) (v : Int) (k : Nat) : Prop := ∀ i, ys.getD i 0 = if 4 ≤ i ∧ i < 4 + k then bits .xor .u8 (F.getD i 0) (v / 2 ^ (8 * (i - 4)) % 256) else F.getD i 0
theorem chg_step {F ys : List Int} {v : Int} {k : Nat} (h : chg F ys v k) (hl : 4 + k < ys.length) (z : Int) (hz : bits .xor .u8 (ys.getD (4 + k) 0) (v / 2 ^ (8 * k) % 256) = z) : chg F (ys.set (4 + k) z) v (k + 1) := by
  intro i
  by_cases hi : i = 4 + k
  · subst hi
    have h0 := h (4 + k)
    rw [if_neg (by omega)] at h0
    rw [if_pos (by omega), show 4 + k - 4 = k by omega, ← h0, hz]
    simp [List.getD_eq_getElem?_getD, hl]
  · have h0 := h i
    have e : (ys.set (4 + k) z).getD i 0 = ys.getD i 0 := by simp [List.getD_eq_getElem?_getD, List.getElem?_set_ne (Ne.symm hi)]
    rw [e, h0]
    by_cases h2 : 4 ≤ i ∧ i < 4 + k
    · rw [if_pos h2, if_pos (by omega)]
    · rw [if_neg h2, if_neg (by omega)]
theorem list_split8 {l : List Int} (h : 8 ≤ l.length) : l = l.take 4 ++ (l.drop 4).take 4 ++ l.drop 8 := by
  have h1 : l.drop 4 = (l.drop 4).take 4 ++ l.drop 8 := by
    rw [show l.drop 8 = (l.drop 4).drop 4 by rw [List.drop_drop], List.take_append_drop]
  rw [List.append_assoc, ← h1, List.take_append_drop]
theorem getD_ext {a b : List Int} (hl : a.length = b.length) (h : ∀ i, i < a.length → a.getD i 0 = b.getD i 0) : a = b :=
  List.ext_getElem hl fun t h1 h2 => by simpa [List.getD_eq_getElem?_getD, h1, h2] using h t h1
theorem getD_take {l : List Int} {i n : Nat} (h : i < n) : (l.take n).getD i 0 = l.getD i 0 := by simp [List.getD_eq_getElem?_getD, List.getElem?_take, h]
theorem getD_drop {l : List Int} {i n : Nat} : (l.drop n).getD i 0 = l.getD (n + i) 0 := by simp [List.getD_eq_getElem?_getD, List.getElem?_drop]
theorem frm_parts (p : List Int) : (frm p).take 4 = len4 p.length ∧ ((frm p).drop 4).take 4 = Oct.lowB (uv (sealV p)) 4 ∧ (frm p).drop 8 = p := by
  have hL := len4_len p.length
  have hS := Oct.lowB_length (uv (sealV p)) 4
  unfold frm
  generalize len4 p.length = L at *
  generalize Oct.lowB (uv (sealV p)) 4 = S at *
  have e1 : (L ++ S ++ p).take 4 = L := by rw [List.append_assoc, List.take_append_of_le_length (by omega), List.take_of_length_le (by omega)]
  have e2 : (L ++ S ++ p).drop 4 = S ++ p := by rw [List.append_assoc, List.drop_append_of_le_length (by omega), List.drop_of_length_le (by omega), List.nil_append]
  refine ⟨e1, ?_, ?_⟩
  · rw [e2, List.take_append_of_le_length (by omega), List.take_of_length_le (by omega)]
  · rw [show 8 = 4 + 4 from rfl, ← List.drop_drop, e2, List.drop_append_of_le_length (by omega), List.drop_of_length_le (by omega), List.nil_append]
/-- The sum's bits, changed: it is read just where none is. -/
theorem turned_sum {p ys : List Int} {V : BitVec 32} (hp : Bytes p) (hl : p.length ≤ 33554432) (hy : Bytes ys) (hyl : ys.length = (frm p).length) (h : chg (frm p) ys (uv V) 4) :
    oneR ys = if V = 0#32 then (p, 8 + (p.length : Int), 0) else ([], 0, 4) := by
  have hfl := frm_len p
  have hfb := frm_bytes hp
  obtain ⟨f1, f2, f3⟩ := frm_parts p
  have t4 : ys.take 4 = len4 p.length := by
    rw [← f1]
    refine getD_ext (by rw [List.length_take, List.length_take, hyl]) fun i hi => ?_
    rw [List.length_take] at hi
    rw [getD_take (by omega), getD_take (by omega), h i, if_neg (by omega)]
  have d8 : ys.drop 8 = p := by
    rw [← f3]
    refine getD_ext (by rw [List.length_drop, List.length_drop, hyl]) fun i hi => ?_
    rw [getD_drop, getD_drop, h (8 + i), if_neg (by omega)]
  have hs := list_split8 (l := ys) (by omega)
  rw [t4, d8] at hs
  have hSl : ((ys.drop 4).take 4).length = 4 := by rw [List.length_take, List.length_drop]; omega
  rw [hs, ← List.append_nil (_ ++ p), oneR_of [] (len4_len _) hSl (ofB_len4 hl) hl]
  have hrange := uv_range (sealV p)
  have hsb : Bytes ((ys.drop 4).take 4) := (hy.drop 4).take 4
  have hv := uv_range V
  by_cases hV : V = 0#32
  · rw [if_pos hV, if_pos]
    have : (ys.drop 4).take 4 = ((frm p).drop 4).take 4 := by
      refine getD_ext (by rw [List.length_take, List.length_drop, List.length_take, List.length_drop, hyl]) fun i hi => ?_
      rw [hSl] at hi
      rw [getD_take hi, getD_take hi, getD_drop, getD_drop, h (4 + i), if_pos (by omega), hV]
      have : uv 0#32 / 2 ^ (8 * (4 + i - 4)) % 256 = 0 := by rw [show uv 0#32 = 0 from rfl, Int.zero_ediv]; rfl
      rw [this]
      exact xor8_self (hfb.getD (by omega))
    rw [this, f2, ofB_lowB4 (by omega) (by omega)]; rfl
  · rw [if_neg hV, if_neg]
    intro he
    apply hV
    have e2 : (ys.drop 4).take 4 = ((frm p).drop 4).take 4 := by
      rw [f2]
      refine ofB_inj (by rw [hSl, Oct.lowB_length]) hsb (lowB_bytes _ _) ?_
      rw [ofB_lowB4 (by omega) (by omega), ← he]; rfl
    have hz : ∀ i, i < 4 → uv V / 2 ^ (8 * i) % 256 = 0 := fun i hi => by
      have h1 : ((ys.drop 4).take 4).getD i 0 = (((frm p).drop 4).take 4).getD i 0 := by rw [e2]
      rw [getD_take hi, getD_take hi, getD_drop, getD_drop, h (4 + i), if_pos (by omega), show 4 + i - 4 = i by omega] at h1
      exact xor8_zero (hfb.getD (by omega)) (by omega) h1
    have z0 := hz 0 (by decide)
    have z1 := hz 1 (by decide)
    have z2 := hz 2 (by decide)
    have z3 := hz 3 (by decide)
    simp only [Nat.mul_zero, Int.pow_zero, Int.ediv_one, Nat.mul_one] at z0 z1 z2 z3
    have : uv V = uv 0#32 := by show uv V = 0; omega
    exact uv_inj this
end Go.Proofs.Ytipjmglieedimaa
