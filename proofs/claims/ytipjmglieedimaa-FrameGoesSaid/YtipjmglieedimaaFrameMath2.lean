import Derived.Test.YtipjmglieedimaaFrameMath
namespace Go.Proofs.Ytipjmglieedimaa
set_option linter.unusedVariables false
set_option linter.unusedSimpArgs false
theorem bt_take {l : List Int} {q n : Nat} (h : q < 8 * n) : bt (l.take n) q = bt l q := by unfold bt; rw [getD_take (by omega)]
theorem bt_drop {l : List Int} {q n : Nat} : bt (l.drop n) q = bt l (8 * n + q) := by
  unfold bt; rw [getD_drop, show (8 * n + q) / 8 = n + q / 8 by omega, show (8 * n + q) % 8 = q % 8 by omega]
theorem bt_app_lo {a b : List Int} {q : Nat} (h : q < 8 * a.length) : bt (a ++ b) q = bt a q := by
  unfold bt
  rw [List.getD_eq_getElem?_getD, List.getElem?_append_left (by omega), ← List.getD_eq_getElem?_getD]
theorem bt_app_hi {a b : List Int} {q : Nat} (h : 8 * a.length ≤ q) : bt (a ++ b) q = bt b (q - 8 * a.length) := by
  unfold bt
  rw [List.getD_eq_getElem?_getD, List.getElem?_append_right (by omega), ← List.getD_eq_getElem?_getD, show (q - 8 * a.length) / 8 = q / 8 - a.length by omega, show (q - 8 * a.length) % 8 = q % 8 by omega]
theorem turned_bits {p ys : List Int} (hp : Bytes p) (hl : p.length ≤ 33554432) (hy : Bytes ys) (hyl : ys.length = (frm p).length) (at_ : Nat) (hat : at_ < 8 * p.length) (V : BitVec 32)
    (h : ∀ q, q < 8 * (frm p).length → bt ys q = (bt (frm p) q ^^ (decide (64 + at_ ≤ q) && V.getLsbD (q - (64 + at_))))) (hV : ∀ i, 8 * (frm p).length ≤ 64 + at_ + i → V.getLsbD i = false) :
    oneR ys = if frm p = ys then (p, 8 + (p.length : Int), 0) else ([], 0, 4) := by
  have hfl := frm_len p
  have hfb := frm_bytes hp
  obtain ⟨f1, f2, f3⟩ := frm_parts p
  have t8 : ys.take 8 = (frm p).take 8 := by
    refine bytes_ext (hy.take 8) (hfb.take 8) (by rw [List.length_take, List.length_take, hyl]) fun q hq => ?_
    rw [List.length_take] at hq
    rw [bt_take (by omega), bt_take (by omega), h q (by omega), decide_eq_false (by omega), Bool.false_and, Bool.xor_false]
  have t4 : ys.take 4 = len4 p.length := by
    have := congrArg (List.take 4) t8
    rw [List.take_take, List.take_take, show min 4 8 = 4 from rfl, f1] at this
    exact this
  have s4 : (ys.drop 4).take 4 = Oct.lowB (uv (sealV p)) 4 := by
    have := congrArg (List.drop 4) t8
    rw [List.drop_take, List.drop_take, f2] at this
    exact this
  have zl : (ys.drop 8).length = p.length := by rw [List.length_drop]; omega
  have hs := list_split8 (l := ys) (by omega)
  have hfs := list_split8 (l := frm p) (by omega)
  rw [t4, s4] at hs
  rw [f1, f2, f3] at hfs
  have hrange := uv_range (sealV p)
  have bu := burst (b := len4 p.length ++ p) (c := len4 p.length ++ ys.drop 8) (by simp [zl]) (bytes_app (lowB_bytes _ _) hp) (bytes_app (lowB_bytes _ _) (hy.drop 8)) (32 + at_) (by rw [List.length_append, len4_len]; omega) V
    (fun q hq => by
      rw [List.length_append, len4_len] at hq
      by_cases hq32 : q < 32
      · rw [bt_app_lo (by rw [len4_len]; omega), bt_app_lo (by rw [len4_len]; omega), decide_eq_false (by omega), Bool.false_and, Bool.xor_false]
      · rw [bt_app_hi (by rw [len4_len]; omega), bt_app_hi (by rw [len4_len]; omega), len4_len, bt_drop, h (8 * 8 + (q - 8 * 4)) (by omega)]
        congr 1
        · rw [← bt_drop, f3]
        · congr 1
          · exact decide_eq_decide.2 (by omega)
          · congr 1; omega)
    (fun i hi => by rw [List.length_append, len4_len] at hi; exact hV i (by omega))
  have o := oneR_of (L := len4 p.length) (S := Oct.lowB (uv (sealV p)) 4) (p := ys.drop 8) [] (len4_len _) (Oct.lowB_length _ _) (by rw [zl]; exact ofB_len4 hl) (by omega)
  rw [List.append_nil, ← hs, zl, ofB_lowB4 (by omega) (by omega)] at o
  rw [o]
  have hiff : uv (more 0#32 (len4 p.length ++ ys.drop 8)) = uv (sealV p) ↔ frm p = ys := by
    constructor
    · intro he
      have h1 := bu.1 (uv_inj he)
      have h2 : p = ys.drop 8 := List.append_cancel_left h1
      rw [hfs, hs, ← h2]
    · intro he
      rw [← he, f3]; rfl
  by_cases hc : frm p = ys
  · rw [if_pos (hiff.2 hc), if_pos hc, ← hc, f3]
  · rw [if_neg (fun hh => hc (hiff.1 hh)), if_neg hc]
end Go.Proofs.Ytipjmglieedimaa
