import Derived.Test.YtjdablkdndmcgaaMem
namespace Go.Proofs.Ytjdablkdndmcgaa
set_option linter.unusedVariables false
set_option linter.unusedSimpArgs false
open Go.RowKit
theorem lit_sl {w : World} {k : IntKind} {e : TypeId} (xs : List Int) (hm : xs.length ≤ maxLen) : SlI (w.alloc (.cells (nums k xs).toArray e)) k (some ⟨w.heap.size, 0, none⟩) xs.length xs := by
  have h := World.ownsRow_lit (base := w.heap.size) (e := e) (size := 1) w (nums k xs).toArray xs.length (Nat.le_refl _) hm (by simp [nums])
  simp only at h
  exact OwnI.sl (base := w.heap.size) (E := e) h
theorem lit_at {w : World} {k : IntKind} {e : TypeId} {B : Nat} (xs : List Int) (hB : w.heap.size = B) (hm : xs.length ≤ maxLen) : SlI (w.alloc (.cells (nums k xs).toArray e)) k (some ⟨B, 0, none⟩) xs.length xs := hB ▸ lit_sl xs hm
end Go.Proofs.Ytjdablkdndmcgaa
