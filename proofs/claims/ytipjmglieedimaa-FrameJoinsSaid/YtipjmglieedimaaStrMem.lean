/- string(b) of bytes that are read; two of them compared. No program of its own. -/
import Derived.Test.YtipjmglieedimaaMem
import Derived.Laws.BytesArg
import Derived.Laws.Strings
namespace Go.Proofs.Ytipjmglieedimaa
set_option linter.unusedVariables false
set_option linter.unusedSimpArgs false
open Go.RowKit
theorem run_conv_sl {P : Program} {w : World} {A : Option Addr} {c : Nat} {xs : List Int} (h : SlI w .u8 A c xs) (src e dst : TypeId) (hs : P.underlying src = some (.slice e)) (he : P.underlying e = some (.int .u8)) (hd : P.underlying dst = some .string) :
    (convert src dst (.slice A xs.length c)).run P w = .ok (.string (strOfNums xs)) w := by
  rw [run_convert_bytes_string w src dst e _ xs.length c hs he hd]
  cases A with
  | none =>
    obtain rfl : xs = [] := by
      rcases h.rd with h1 | ⟨ad, h1, _⟩
      · exact List.map_eq_nil_iff.1 h1
      · cases h1
    simp [Conv.bytesToString]; rfl
  | some ad =>
    have hl : (loadCells ad xs.length).run P w = .ok (xs.map (Value.int .u8)).toArray w := by
      have := run_loadCells_list (P := P) w ad (xs.map (Value.int .u8)) (fun j v hj => by
        rcases h.rd with h1 | ⟨a2, h1, h2⟩
        · unfold nums at h1; rw [h1] at hj; simp at hj
        · cases h1; exact h2 j v hj)
      simpa using this
    rw [run_bytesToString w ad xs.length c xs hl, foldl_push_bytes]
    simp [strOfNums, ByteArray.empty, ByteArray.emptyWithCapacity]
    rfl
end Go.Proofs.Ytipjmglieedimaa
