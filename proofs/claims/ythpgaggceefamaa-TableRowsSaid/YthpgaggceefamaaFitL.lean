/- A code that fits: plain laws; the contracts of a valid book's table at a code that fits. -/
import Derived.Test.YthpgaggceefamaaRefLoss
import Derived.Test.YthpgaggceefamaaTab2
import Derived.Test.YthpgaggceefamaaRefT2
namespace Go.Proofs.Ythpgaggceefamaa
set_option linter.unusedVariables false
set_option linter.unusedSimpArgs false
open Go.RowKit
/-- The first p bytes of the code, each modulo the number of words; zero behind them. -/
def fitL (ls : List Nat) (code : List Int) (p : Nat) : List Int := (List.range ls.length).map fun i => if i < p then code.getD i 0 % ((ls.getD i 0 : Nat) : Int) else 0
theorem fitL_length (ls : List Nat) (code : List Int) (p : Nat) : (fitL ls code p).length = ls.length := by simp [fitL]
theorem fitL_zero (ls : List Nat) (code : List Int) : fitL ls code 0 = List.replicate ls.length 0 := by
  apply List.ext_getElem
  · simp [fitL]
  · intro i h1 h2
    simp [fitL]
theorem fitL_set {ls : List Nat} {code : List Int} {p : Nat} : (fitL ls code p).set p (code.getD p 0 % ((ls.getD p 0 : Nat) : Int)) = fitL ls code (p + 1) := by
  apply List.ext_getElem
  · simp [fitL]
  · intro i h1 h2
    simp only [fitL, List.getElem_set, List.getElem_map, List.getElem_range]
    by_cases hi : p = i
    · subst hi; rw [if_pos rfl, if_pos (by omega)]
    · rw [if_neg hi]
      by_cases h3 : i < p
      · rw [if_pos h3, if_pos (by omega)]
      · rw [if_neg h3, if_neg (by omega)]
theorem fitL_fit {ls : List Nat} {code : List Int} (p : Nat) (hn : ∀ i, i < ls.length → 1 ≤ ls.getD i 0) (i : Nat) (hi : i < ls.length) : 0 ≤ (fitL ls code p).getD i 0 ∧ (fitL ls code p).getD i 0 < ((ls.getD i 0 : Nat) : Int) := by
  have := hn i hi
  have e : (fitL ls code p).getD i 0 = if i < p then code.getD i 0 % ((ls.getD i 0 : Nat) : Int) else 0 := by simp [fitL, List.getD_eq_getElem?_getD, hi]
  rw [e]
  split
  · exact ⟨Int.emod_nonneg _ (by omega), Int.emod_lt_of_pos _ (by omega)⟩
  · omega
theorem getD_ls {α : Type} (b : List (List α)) (i : Nat) : (b.map List.length).getD i 0 = (b.getD i []).length := by
  simp only [List.getD_eq_getElem?_getD, List.getElem?_map]
  cases b[i]? <;> rfl
/-- A code that fits a table. -/
def fitsT (ls : List Nat) (fc : List Int) : Prop := fc.length = ls.length ∧ ∀ i, i < ls.length → 0 ≤ fc.getD i 0 ∧ fc.getD i 0 < ((ls.getD i 0 : Nat) : Int)
theorem fitL_fits {ls : List Nat} (code : List Int) (p : Nat) (hn : ∀ i, i < ls.length → 1 ≤ ls.getD i 0) : fitsT ls (fitL ls code p) := ⟨fitL_length _ _ _, fitL_fit p hn⟩
theorem fitsT_byte {ls : List Nat} {fc : List Int} (h : fitsT ls fc) (hb : ∀ i, i < ls.length → ls.getD i 0 ≤ 256) : ∀ x ∈ fc, 0 ≤ x ∧ x ≤ 255 := by
  intro x hx
  obtain ⟨i, hi, rfl⟩ := List.mem_iff_getElem.1 hx
  have := h.2 i (by rw [← h.1]; exact hi)
  have := hb i (by rw [← h.1]; exact hi)
  have e : fc.getD i 0 = fc[i] := by simp [List.getD_eq_getElem?_getD, hi]
  omega
theorem sumT_fits {t : List (List Int)} {fc : List Int} (hc : ckT t = 0) (h : fitsT (t.map List.length) fc) : sumT t fc = (sumN t fc t.length, 0) := by
  have hl : fc.length = t.length := by have := h.1; simpa using this
  unfold sumT
  rw [if_neg, hl]
  rintro (h1 | h1 | h1)
  · exact h1 hc
  · exact h1 hl
  · apply h1
    intro p hp
    have := (h.2 p (by simp; omega)).2
    rwa [getD_ls] at this
theorem tabI_lens {b : List (List (List Int))} (r : List Int) : (tabI b r).map List.length = b.map List.length := by
  apply List.ext_getElem
  · simp [tabI]
  · intro i h1 h2
    simp only [List.length_map] at h2
    simp [tabI, rowI, List.getD_eq_getElem?_getD, h2]
theorem sumN_upto {t : List (List Int)} {fc : List Int} (n : Nat) (h : n = t.length) : sumN t fc n = sumN t fc t.length := by rw [h]
/-- A valid book and a vector that fits. -/
def goodB (b : List (List (List Int))) (r : List Int) : Prop := ckB b = 0 ∧ ckW r = 0 ∧ r.length = b.length * wdB b
theorem TSum_fits (A B : Option Addr) (c d : Nat) (t : List (List Int)) (fc : List Int) (n : Nat) (hn : t.length = n) (w : World) (h : SlS w .i64 A c t) (k : SlI w .u8 B d fc) (hc : ckT t = 0) (hf : fitsT (t.map List.length) fc) :
    Calls Try.prog 17 #[.agg #[.slice A n c], .slice B n d] w fun e w' => e = .returned (.tuple #[.int .i64 (sumN t fc n), .int .i64 0]) ∧ Below w.heap.size w w' := by
  subst hn
  have C := TSum_calls A B c d t fc w h k (fitsT_byte hf fun i hi => by
    rw [getD_ls]; exact ((ckT_ok hc).2.2 i (by simpa using hi)).2.1)
  rw [sumT_fits hc hf, show fc.length = t.length from by simpa using hf.1] at C
  exact C
theorem TLeast_good (A : Option Addr) (c : Nat) (b : List (List (List Int))) (r : List Int) (w : World) (g : goodB b r) (h : SlS w .i64 A c (tabI b r)) :
    Calls Try.prog 20 #[.agg #[.slice A b.length c]] w fun e w' => ∃ A' c', e = .returned (.tuple #[.int .i64 (leastN (tabI b r) b.length), .slice A' b.length c']) ∧ SlI w' .u8 A' c' (argT (tabI b r)) ∧ Below w.heap.size w w' := by
  have C := TLeast_calls A c (tabI b r) w h
  rw [show leastT (tabI b r) = (leastN (tabI b r) (tabI b r).length, argT (tabI b r)) from by unfold leastT; rw [if_neg (by rw [ckT_tabI g.1 g.2.1 g.2.2]; decide)]] at C
  dsimp only at C
  rw [tabI_length, argT_length, tabI_length] at C
  exact C.mono fun e w' ⟨A', c', h1, h2, h3⟩ => ⟨A', c', h1, h2.sl, h3⟩
theorem REncode_good (A B : Option Addr) (c d : Nat) (b : List (List (List Int))) (r : List Int) (w : World) (g : goodB b r) (hS : shortB b) (h : SlB w .i32 A c b) (k : SlI w .i32 B d r) :
    Calls Try.prog 21 #[.agg #[.slice A b.length c], .slice B r.length d] w fun e w' => ∃ A' c', e = .returned (.tuple #[.slice A' b.length c', .int .i64 0]) ∧ SlI w' .u8 A' c' (argT (tabI b r)) ∧ Below w.heap.size w w' :=
  (REncode_calls A B c d b r w h k hS g.1 g.2.1 g.2.2).mono fun e w' ⟨A', c', h1, h2, h3⟩ => ⟨A', c', h1, h2.sl, h3⟩
theorem RLoss_good (A B : Option Addr) (c d : Nat) (b : List (List (List Int))) (r : List Int) (w : World) (g : goodB b r) (hS : shortB b) (h : SlB w .i32 A c b) (k : SlI w .i32 B d r) :
    Calls Try.prog 22 #[.agg #[.slice A b.length c], .slice B r.length d] w fun e w' => e = .returned (.tuple #[.int .i64 (leastN (tabI b r) b.length), .int .i64 0]) ∧ Below w.heap.size w w' :=
  RLoss_calls A B c d b r w h k hS g.1 g.2.1 g.2.2
theorem fitsT_b {b : List (List (List Int))} {fc : List Int} (hf : fitsT (b.map List.length) fc) : fc.length = b.length ∧ ∀ p, p < b.length → 0 ≤ fc.getD p 0 ∧ fc.getD p 0 < ((b.getD p []).length : Int) :=
  ⟨by simpa using hf.1, fun p hp => by have := hf.2 p (by simpa using hp); rwa [getD_ls] at this⟩
theorem RDecode_good (A B : Option Addr) (c d : Nat) (b : List (List (List Int))) (fc : List Int) (r : List Int) (w : World) (g : goodB b r) (hS : shortB b) (hf : fitsT (b.map List.length) fc) (h : SlB w .i32 A c b) (k : SlI w .u8 B d fc) :
    Calls Try.prog 18 #[.agg #[.slice A b.length c], .slice B b.length d] w fun e w' => ∃ A' c', e = .returned (.tuple #[.slice A' (decN b fc b.length).length c', .int .i64 0]) ∧ SlI w' .i32 A' c' (decN b fc b.length) ∧ Below w.heap.size w w' := by
  have f := fitsT_b hf
  have C := RDecode_calls A B c d b fc w h k hS g.1 f.1 f.2
  rw [f.1] at C
  exact C.mono fun e w' ⟨A', c', h1, h2, h3⟩ => ⟨A', c', h1, h2.sl, h3⟩
theorem RDist_good (A B : Option Addr) (ca cb : Nat) (b : List (List (List Int))) (r fc : List Int) (w : World) (g : goodB b r) (hf : fitsT (b.map List.length) fc) (ha : SlI w .i32 A ca r) (hb : SlI w .i32 B cb (decN b fc b.length)) :
    Calls Try.prog 19 #[.slice A r.length ca, .slice B (decN b fc b.length).length cb] w fun e w' => e = .returned (.tuple #[.int .i64 (sumN (tabI b r) fc b.length), .int .i64 0]) ∧ Below w.heap.size w w' := by
  have C := RDist_calls A B ca cb r (decN b fc b.length) w ha hb
  rw [dist_dec g.1 g.2.1 g.2.2 (fitsT_b hf).2] at C
  exact C
theorem Same_byte_n (A B : Option Addr) (c d : Nat) (l : List Int) (n : Nat) (hl : l.length = n) (w : World) (h : SlI w .u8 A c l) (k : SlI w .u8 B d l) :
    Calls Try.prog 23 #[.slice A n c, .slice B n d] w fun e w' => e = .returned (.bool true) ∧ Below w.heap.size w w' := by
  subst hl
  have C := Same_byte_b A B c d l l w h k
  rw [decide_eq_true (rfl : l = l)] at C
  exact C
theorem least_fits {b : List (List (List Int))} {r fc : List Int} (hf : fitsT (b.map List.length) fc) : leastN (tabI b r) b.length ≤ sumN (tabI b r) fc b.length :=
  leastN_le (t := tabI b r) (fun p hp => by
    have := (fitsT_b hf).2 p (by rwa [tabI_length] at hp)
    rwa [show ((tabI b r).getD p []).length = (b.getD p []).length from by rw [← getD_ls, tabI_lens, getD_ls]]) b.length (by rw [tabI_length]; exact Nat.le_refl _)
end Go.Proofs.Ythpgaggceefamaa
