/- The law's book; table.row. -/
import Derived.Test.YthpgaggceefamaaOwnBook
import Derived.Test.YthpgaggceefamaaMake
namespace Go.Proofs.Ythpgaggceefamaa
set_option linter.unusedVariables false
set_option linter.unusedSimpArgs false
open Go.RowKit
def bookL : List (List (List Int)) := [[[0], [10]], [[0], [10]]]
/-- A row of one-cell values, written out. -/
theorem rd_lit {w : World} {e : TypeId} (vs : List Value) (hm : vs.length ≤ maxLen) : Rd (w.alloc (.cells vs.toArray e)) (some ⟨w.heap.size, 0, none⟩) vs := by
  have h := World.ownsRow_lit (base := w.heap.size) (e := e) (size := 1) w vs.toArray vs.length (Nat.le_refl _) hm (by simp)
  simp only at h
  exact OwnV.rd (base := w.heap.size) (E := e) h
theorem rd_at {w : World} {e : TypeId} {B : Nat} (vs : List Value) (hB : w.heap.size = B) (hm : vs.length ≤ maxLen) : Rd (w.alloc (.cells vs.toArray e)) (some ⟨B, 0, none⟩) vs := hB ▸ rd_lit vs hm
theorem rowsI_2 {w : World} {k : IntKind} {A B : Option Addr} {c d : Nat} {xs ys : List Int} (h : SlI w k A c xs) (h' : SlI w k B d ys) : RowsI w k (fun _ => True) [.slice A xs.length c, .slice B ys.length d] [xs, ys] :=
  ((RowsI.nil w k _).snoc h (fun _ _ => trivial)).snoc h' (fun _ _ => trivial)
theorem rowsS_2 {w : World} {k : IntKind} {A B : Option Addr} {c d : Nat} {xs ys : List (List Int)} (h : SlS w k A c xs) (h' : SlS w k B d ys) : RowsS w k (fun _ => True) [.slice A xs.length c, .slice B ys.length d] [xs, ys] :=
  ((RowsS.nil w k _).snoc h.slK).snoc h'.slK
theorem mat2 {k : IntKind} {e e2 : TypeId} (W : World) (B : Nat) (hB : W.heap.size = B) (x y : Int) :
    SlS (((W.alloc (.cells #[.int k x] e)).alloc (.cells #[.int k y] e)).alloc (.cells #[.slice (some ⟨B, 0, none⟩) 1 1, .slice (some ⟨B + 1, 0, none⟩) 1 1] e2)) k (some ⟨B + 1 + 1, 0, none⟩) 2 [[x], [y]] := by
  have h1 := lit_at (w := W) (k := k) (e := e) [x] hB (by simp [maxLen])
  have h2 := lit_at (w := W.alloc (.cells #[.int k x] e)) (k := k) (e := e) (B := B + 1) [y] (by simp [hB]) (by simp [maxLen])
  have h3 := rd_at (w := (W.alloc (.cells #[.int k x] e)).alloc (.cells #[.int k y] e)) (e := e2) (B := B + 1 + 1) [.slice (some ⟨B, 0, none⟩) 1 1, .slice (some ⟨B + 1, 0, none⟩) 1 1] (by simp [hB]) (by simp [maxLen])
  exact ⟨⟨_, h3, rowsI_2 ((h1.below (below_box _)).below (below_box _)) (h2.below (below_box _))⟩, by simp, by simp [maxLen]⟩
theorem cube2 {k : IntKind} {e e2 e3 : TypeId} (W : World) (B : Nat) (hB : W.heap.size = B) (x y z u : Int) :
    SlB (((((((W.alloc (.cells #[.int k x] e)).alloc (.cells #[.int k y] e)).alloc (.cells #[.slice (some ⟨B, 0, none⟩) 1 1, .slice (some ⟨B + 1, 0, none⟩) 1 1] e2)).alloc (.cells #[.int k z] e)).alloc (.cells #[.int k u] e)).alloc (.cells #[.slice (some ⟨B + 1 + 1 + 1, 0, none⟩) 1 1, .slice (some ⟨B + 1 + 1 + 1 + 1, 0, none⟩) 1 1] e2)).alloc
      (.cells #[.slice (some ⟨B + 1 + 1, 0, none⟩) 2 2, .slice (some ⟨B + 1 + 1 + 1 + 1 + 1, 0, none⟩) 2 2] e3)) k (some ⟨B + 1 + 1 + 1 + 1 + 1 + 1, 0, none⟩) 2 [[[x], [y]], [[z], [u]]] := by
  have h1 := mat2 (k := k) (e := e) (e2 := e2) W B hB x y
  have hs : (((W.alloc (.cells #[.int k x] e)).alloc (.cells #[.int k y] e)).alloc (.cells #[.slice (some ⟨B, 0, none⟩) 1 1, .slice (some ⟨B + 1, 0, none⟩) 1 1] e2)).heap.size = B + 1 + 1 + 1 := by simp [hB]
  generalize ((W.alloc (.cells #[.int k x] e)).alloc (.cells #[.int k y] e)).alloc (.cells #[.slice (some ⟨B, 0, none⟩) 1 1, .slice (some ⟨B + 1, 0, none⟩) 1 1] e2) = V at *
  have h2 := mat2 (k := k) (e := e) (e2 := e2) V (B + 1 + 1 + 1) hs z u
  have h1 := ((h1.below (below_box (.cells #[.int k z] e))).below (below_box (.cells #[.int k u] e))).below (below_box (.cells #[.slice (some ⟨B + 1 + 1 + 1, 0, none⟩) 1 1, .slice (some ⟨B + 1 + 1 + 1 + 1, 0, none⟩) 1 1] e2))
  have h3 := rd_at (w := ((V.alloc (.cells #[.int k z] e)).alloc (.cells #[.int k u] e)).alloc (.cells #[.slice (some ⟨B + 1 + 1 + 1, 0, none⟩) 1 1, .slice (some ⟨B + 1 + 1 + 1 + 1, 0, none⟩) 1 1] e2)) (e := e3) (B := B + 1 + 1 + 1 + 1 + 1 + 1) [.slice (some ⟨B + 1 + 1, 0, none⟩) 2 2, .slice (some ⟨B + 1 + 1 + 1 + 1 + 1, 0, none⟩) 2 2] (by simp [hs]) (by simp [maxLen])
  exact ⟨⟨_, h3, rowsS_2 (h1.below (below_box _)) (h2.below (below_box _))⟩, by simp, by simp [maxLen]⟩
theorem book_calls (w : World) : Calls Try.prog 30 #[] w fun e w' => ∃ A c, e = .returned (.agg #[.slice A bookL.length c]) ∧ SlB w' .i32 A c bookL ∧ Below w.heap.size w w' := by
  go_enter Try.func30, Try.ntmps30
  go_wp2_with fail
  (try simp only [Exit.inBlock, Exit.then])
  have hb := cube2 (k := .i32) (e := 21) (e2 := 25) (e3 := 41) (w.alloc (.cells #[.slice (some ⟨w.heap.size + 1 + 1 + 1 + 1 + 1 + 1 + 1, 0, none⟩) 2 2] 24)) (w.heap.size + 1) (by simp) 0 10 0 10
  refine ret_box rfl rfl ((((((((Boxed.new w 24 _).alloc _).alloc _).alloc _).alloc _).alloc _).alloc _).alloc _) Try.underlying24 rfl (by kernel_rfl) ?_
  exact ⟨_, _, rfl, hb, below_alloc (below_alloc (below_alloc (below_alloc (below_alloc (below_alloc (below_alloc (below_box _) _) _) _) _) _) _) _⟩
end Go.Proofs.Ythpgaggceefamaa
