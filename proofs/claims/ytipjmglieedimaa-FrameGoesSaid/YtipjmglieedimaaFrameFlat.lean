import Derived.Test.YtipjmglieedimaaFrameScan
import Derived.Test.YtipjmglieedimaaFrameRef
namespace Go.Proofs.Ytipjmglieedimaa
set_option linter.unusedVariables false
set_option linter.unusedSimpArgs false
/-! Payloads' frames, one behind the other. -/
def frs : List (List Int) → List Int
  | [] => []
  | p :: l => frm p ++ frs l
def okP (l : List (List Int)) : Prop := ∀ p ∈ l, Bytes p ∧ p.length ≤ 33554432
theorem frs_len (l : List (List Int)) : (frs l).length = used l := by
  induction l with
  | nil => rfl
  | cons p l ih => simp only [frs, used, List.length_append, ih, frm_len]; omega
theorem frs_app (a b : List (List Int)) : frs (a ++ b) = frs a ++ frs b := by
  induction a with
  | nil => rfl
  | cons p a ih => simp only [List.cons_append, frs, ih, List.append_assoc]
theorem frs_bytes {l : List (List Int)} (h : okP l) : Bytes (frs l) := by
  induction l with
  | nil => intro x hx; simp [frs] at hx
  | cons p l ih => exact bytes_app (frm_bytes (h p (List.mem_cons_self ..)).1) (ih fun q hq => h q (List.mem_cons_of_mem _ hq))
theorem scanF_fuel : ∀ (f g : Nat) (b : List Int), Bytes b → b.length < f → b.length < g → scanF f b = scanF g b := by
  intro f
  induction f with
  | zero => intro g b _ hf; omega
  | succ f ih =>
    intro g b hb hf hg
    cases g with
    | zero => omega
    | succ g =>
      rw [scanF, scanF]
      by_cases h : (oneR b).2.2 = 0
      · obtain ⟨p, hp, hlen, _⟩ := oneR_ok hb h
        rw [if_pos h, if_pos h, hp]
        congr 1
        exact ih g _ (hb.drop _) (by rw [List.length_drop]; omega) (by rw [List.length_drop]; omega)
      · rw [if_neg h, if_neg h]
theorem scanR_cons {p r : List Int} (hp : Bytes p) (hl : p.length ≤ 33554432) (hr : Bytes r) : scanR (frm p ++ r) = p :: scanR r := by
  have h1 := oneR_frm r hl
  have e : (frm p ++ r).drop (8 + p.length) = r := by
    rw [List.drop_append_of_le_length (by rw [frm_len]; omega), List.drop_of_length_le (by rw [frm_len]; omega), List.nil_append]
  unfold scanR
  rw [scanF, h1, if_pos rfl]
  show p :: scanF _ ((frm p ++ r).drop (8 + p.length)) = _
  rw [e]
  congr 1
  exact scanF_fuel _ _ r hr (by rw [List.length_append, frm_len]; omega) (by omega)
theorem scanR_frs {l : List (List Int)} (h : okP l) {r : List Int} (hr : Bytes r) : scanR (frs l ++ r) = l ++ scanR r := by
  induction l with
  | nil => rfl
  | cons p l ih =>
    have hp := h p (List.mem_cons_self ..)
    have hl : okP l := fun q hq => h q (List.mem_cons_of_mem _ hq)
    rw [frs, List.append_assoc, scanR_cons hp.1 hp.2 (bytes_app (frs_bytes hl) hr), ih hl]; rfl
theorem scanR_nil : scanR [] = [] := by unfold scanR; rw [scanF, if_neg (by decide)]
theorem scanR_none {b : List Int} (h : (oneR b).2.2 ≠ 0) : scanR b = [] := by unfold scanR; rw [scanF, if_neg h]
/-- A part of a frame is none. -/
theorem oneR_part {p : List Int} (hl : p.length ≤ 33554432) (r : List Int) (m : Nat) (hm : m < 8 + p.length) : (oneR ((frm p ++ r).take m)).2.2 ≠ 0 := by
  have hlen : ((frm p ++ r).take m).length = m := by rw [List.length_take, List.length_append, frm_len]; omega
  unfold oneR
  rw [hlen]
  by_cases h1 : m < 8
  · rw [if_pos h1]; decide
  · have e4 : ((frm p ++ r).take m).take 4 = len4 p.length := by
      rw [List.take_take, Nat.min_eq_left (by omega), List.take_append_of_le_length (by rw [frm_len]; omega)]
      exact (frm_parts p).1
    rw [if_neg h1, e4, ofB_len4 hl, if_neg (by omega), if_pos (by omega)]
    decide
/-- What was read and is written again. -/
theorem frs_scan : ∀ (f : Nat) (b : List Int), Bytes b → b.length < f → frs (scanF f b) = b.take (used (scanF f b)) ∧ okP (scanF f b) ∧ used (scanF f b) ≤ b.length := by
  intro f
  induction f with
  | zero => intro b _ hf; omega
  | succ f ih =>
    intro b hb hf
    rw [scanF]
    by_cases h : (oneR b).2.2 = 0
    · rw [if_pos h]
      obtain ⟨p, hp, hlen, hpe, hpl, hn, hs⟩ := oneR_ok hb h
      have hb2 : Bytes p := by rw [hpe]; exact (hb.drop 8).take _
      rw [hp]
      dsimp only
      obtain ⟨i1, i2, i3⟩ := ih (b.drop (8 + p.length)) (hb.drop _) (by rw [List.length_drop]; omega)
      have hf := (frm_same hb p.length hn (by omega)).2 (by rw [← hpe]; exact hs)
      rw [← hpe] at hf
      rw [List.length_drop] at i3
      refine ⟨?_, ?_, ?_⟩
      · rw [frs, used, i1, hf]; exact List.take_add.symm
      · intro q hq
        rcases List.mem_cons.1 hq with h1 | h1
        · subst h1; exact ⟨hb2, by omega⟩
        · exact i2 q h1
      · rw [used]; omega
    · rw [if_neg h]
      exact ⟨rfl, fun q hq => by simp at hq, by simp [used]⟩
theorem frs_scanR {b : List Int} (hb : Bytes b) : frs (scanR b) = b.take (used (scanR b)) ∧ okP (scanR b) ∧ used (scanR b) ≤ b.length := frs_scan _ b hb (by omega)
theorem okP_take {l : List (List Int)} (h : okP l) (k : Nat) : okP (l.take k) := fun q hq => h q (List.mem_of_mem_take hq)
/-- Cut off anywhere. -/
theorem scanR_cut {l : List (List Int)} (h : okP l) {k at_ : Nat} (hk : k ≤ l.length) (h1 : used (l.take k) ≤ at_) (h2 : k < l.length → at_ < used (l.take (k + 1))) (h3 : at_ ≤ used l) :
    scanR ((frs l).take at_) = l.take k := by
  by_cases hlt : k < l.length
  · have hsp : l = l.take k ++ (l.getD k [] :: l.drop (k + 1)) := by
      conv => lhs; rw [← List.take_append_drop k l, List.drop_eq_getElem_cons hlt]
      rw [List.getD_eq_getElem?_getD, List.getElem?_eq_getElem hlt]; rfl
    have hp := h (l.getD k []) (by rw [List.getD_eq_getElem?_getD, List.getElem?_eq_getElem hlt]; exact List.getElem_mem hlt)
    have hu := used_take_succ hlt
    have h2 := h2 hlt
    have ht : (frs l).take at_ = frs (l.take k) ++ (frm (l.getD k []) ++ frs (l.drop (k + 1))).take (at_ - used (l.take k)) := by
      conv => lhs; rw [hsp, frs_app, frs]
      rw [List.take_append, frs_len, List.take_of_length_le (by rw [frs_len]; exact h1)]
    have hb : Bytes ((frm (l.getD k []) ++ frs (l.drop (k + 1))).take (at_ - used (l.take k))) := by
      refine Bytes.take ?_ _
      exact bytes_app (frm_bytes hp.1) (frs_bytes fun q hq => h q (List.mem_of_mem_drop hq))
    rw [ht, scanR_frs (okP_take h k) hb, scanR_none (oneR_part hp.2 _ _ (by omega)), List.append_nil]
  · obtain rfl : k = l.length := by omega
    rw [List.take_length] at h1 ⊢
    have : at_ = used l := by omega
    rw [List.take_of_length_le (by rw [frs_len]; omega)]
    have := scanR_frs h (r := []) (fun x hx => by simp at hx)
    rwa [List.append_nil, scanR_nil, List.append_nil] at this
end Go.Proofs.Ytipjmglieedimaa
