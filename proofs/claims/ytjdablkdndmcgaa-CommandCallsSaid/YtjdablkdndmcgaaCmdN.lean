/- CmdN: Name, Word. -/
import Derived.Test.YtjdablkdndmcgaaCmdD
namespace Go.Proofs.Ytjdablkdndmcgaa
set_option linter.unusedVariables false
set_option linter.unusedSimpArgs false
open Go.RowKit
def str (l : List UInt8) : ByteArray := ⟨l.toArray⟩
def nameL : List ByteArray := [str [], str [105, 110, 115, 101, 114, 116], str [100, 101, 108, 101, 116, 101], str [103, 101, 116], str [99, 111, 117, 110, 116], str [114, 101, 98, 117, 105, 108, 116], str [97, 112, 112, 114, 111, 120], str [101, 120, 97, 99, 116], str [116, 114, 97, 105, 110], str [115, 116, 101, 112], str [99, 111, 109, 112, 97, 99, 116], str [99, 104, 101, 99, 107, 112, 111, 105, 110, 116], str [100, 117, 109, 112]]
def wordL : List ByteArray := [str [111, 107], str [98, 121, 116, 101, 115], str [100, 105, 109], str [116, 104, 101, 114, 101], str [110, 111, 110, 101], str [114, 111, 111, 109], str [98, 97, 99, 107, 108, 111, 103], str [100, 105, 115, 107], str [115, 116, 97, 116, 101], str [100, 111, 119, 110]]
/-- The one at a place of some. -/
def wordS (n : Int) (l : List ByteArray) : ByteArray := if n < 0 ∨ (l.length : Int) ≤ n then str [] else l.getD n.toNat (str [])
theorem word_calls (n : Int) (A : Option Addr) (c : Nat) (l : List ByteArray) (w : World) (h : Rd w A (l.map Value.string)) :
    Calls Try.prog 39 #[.int .i64 n, .slice A l.length c] w fun e w' => e = .returned (.string (wordS n l)) ∧ w' = w := by
  by_cases h1 : n < 0
  · have e : wordS n l = str [] := by unfold wordS; rw [if_pos (.inl h1)]
    rw [e]
    go_enter Try.func39, Try.ntmps39
    go_wp2
    go_ret
    exact ⟨rfl, rfl⟩
  by_cases h2 : (l.length : Int) ≤ n
  · have e : wordS n l = str [] := by unfold wordS; rw [if_pos (.inr h2)]
    rw [e]
    go_enter Try.func39, Try.ntmps39
    go_wp2
    go_ret
    exact ⟨rfl, rfl⟩
  have e : wordS n l = l.getD n.toNat (str []) := by unfold wordS; rw [if_neg (by omega)]
  rw [e]
  obtain ⟨k, rfl⟩ := Int.eq_ofNat_of_zero_le (show 0 ≤ n by omega)
  have hk : k < l.length := by omega
  rw [show ((k : Int)).toNat = k from rfl]
  rcases h with h | ⟨ad, rfl, hc⟩
  · have : l = [] := by simpa using h
    subst this; simp at hk
  have hck := hc k (.string (l.getD k (str []))) (by simp [List.getD_eq_getElem?_getD, List.getElem?_eq_getElem hk])
  have hk' : (k : Int) < (l.length : Int) := by omega
  clear hc h1 h2 e
  obtain ⟨s, hs⟩ : ∃ s, s = l.getD k (str []) := ⟨_, rfl⟩
  rw [← hs] at hck ⊢
  clear hs
  go_enter Try.func39, Try.ntmps39
  go_wp2
  go_ret
  exact ⟨rfl, rfl⟩
theorem Name_calls (n : Int) (w : World) :
    Calls Try.prog 18 #[.int .i64 n] w fun e w' => e = .returned (.string (wordS n nameL)) ∧ Below w.heap.size w w' := by
  have hb := below_box0 w (.cells (nameL.map Value.string).toArray 9)
  have hr : Rd (w.alloc (.cells (nameL.map Value.string).toArray 9)) (some ⟨w.heap.size, 0, none⟩) (nameL.map Value.string) := .inr ⟨_, rfl, World.news_of_block (cs := (nameL.map Value.string).toArray) (t := 9) (fr := (0, 0)) (heap_alloc_new w _)⟩
  have HX := Lib.hid (And.intro hr hb)
  clear hr hb
  go_enter Try.func18, Try.ntmps18
  go_wp2_with fail
  refine (word_calls n (some ⟨w.heap.size, 0, none⟩) 13 nameL _ HX.out.1).mono ?_
  rintro e w1 ⟨rfl, rfl⟩
  go_wp2_with fail
  go_ret
  exact ⟨rfl, HX.out.2⟩
theorem Word_calls (n : Int) (w : World) :
    Calls Try.prog 22 #[.int .i64 n] w fun e w' => e = .returned (.string (wordS n wordL)) ∧ Below w.heap.size w w' := by
  have hb := below_box0 w (.cells (wordL.map Value.string).toArray 9)
  have hr : Rd (w.alloc (.cells (wordL.map Value.string).toArray 9)) (some ⟨w.heap.size, 0, none⟩) (wordL.map Value.string) := .inr ⟨_, rfl, World.news_of_block (cs := (wordL.map Value.string).toArray) (t := 9) (fr := (0, 0)) (heap_alloc_new w _)⟩
  have HX := Lib.hid (And.intro hr hb)
  clear hr hb
  go_enter Try.func22, Try.ntmps22
  go_wp2_with fail
  refine (word_calls n (some ⟨w.heap.size, 0, none⟩) 10 wordL _ HX.out.1).mono ?_
  rintro e w1 ⟨rfl, rfl⟩
  go_wp2_with fail
  go_ret
  exact ⟨rfl, HX.out.2⟩
theorem name_some (n : Int) (h0 : 1 ≤ n) (h1 : n ≤ 12) : (wordS n nameL == str []) = false := by
  obtain ⟨k, rfl⟩ := Int.eq_ofNat_of_zero_le (show 0 ≤ n by omega)
  have : ∀ k : Fin 13, 1 ≤ k.val → (wordS (k.val : Int) nameL == str []) = false := by decide
  exact this ⟨k, by omega⟩ (by show 1 ≤ k; omega)
theorem name_empty (n : Int) (h0 : 1 ≤ n) (h1 : n ≤ 12) : (wordS n nameL).toList.isEmpty = false := by
  rw [ByteArray.toList_eq]
  obtain ⟨k, rfl⟩ := Int.eq_ofNat_of_zero_le (show 0 ≤ n by omega)
  have : ∀ k : Fin 13, 1 ≤ k.val → (wordS (k.val : Int) nameL).data.toList.isEmpty = false := by decide
  exact this ⟨k, by omega⟩ (by show 1 ≤ k; omega)
end Go.Proofs.Ytjdablkdndmcgaa
