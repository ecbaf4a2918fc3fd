/- CmdV: what Parse tells of the examples; seven. -/
import Derived.Test.YtjdablkdndmcgaaCmdT
import Derived.Test.YtjdablkdndmcgaaLit
namespace Go.Proofs.Ytjdablkdndmcgaa
set_option linter.unusedVariables false
set_option linter.unusedSimpArgs false
open Go.RowKit
theorem parse_a : parseR [4] = some ⟨4, 0, [], 0, 0, []⟩ := by kernel_rfl
theorem parse_b : parseR [4, 0] = none := by kernel_rfl
theorem parse_c : parseR [1, 7, 0, 0, 0, 0, 0, 0, 0, 0, 2, 0, 5, 0, 255, 255] = some ⟨1, 7, [5, -1], 0, 0, []⟩ := by kernel_rfl
theorem parse_d : parseR [1, 7, 0, 0, 0, 0, 0, 0, 0, 1, 1, 0, 0, 0, 0, 0, 0, 0, 248, 63] = some ⟨1, 7, [2], 0, 0, []⟩ := by kernel_rfl
theorem seven_calls (op : Int) (A : Option Addr) (c : Nat) (l : List Int) (w : World) (h : SlI w .u8 A c l) (hl : l.length ≤ 140737488355000) (zs : List Int) (hz : Hid ([op, 7, 0, 0, 0, 0, 0, 0, 0] ++ l = zs)) :
    Calls Try.prog 20 #[.int .u8 op, .slice A l.length c] w fun en w' => ∃ A' c', en = .returned (.slice A' zs.length c') ∧ SlI w' .u8 A' c' zs ∧ Below w.heap.size w w' := by
  have hb := below_box0 w (.cells (nums .u8 [op, 7, 0, 0, 0, 0, 0, 0, 0]).toArray 5)
  have ho : OwnI (w.alloc (.cells (nums .u8 [op, 7, 0, 0, 0, 0, 0, 0, 0]).toArray 5)) w.heap.size 5 .u8 (some ⟨w.heap.size, 0, none⟩) 9 [op, 7, 0, 0, 0, 0, 0, 0, 0] :=
    World.ownsRow_lit (base := w.heap.size) (e := 5) (size := 1) w (nums .u8 [op, 7, 0, 0, 0, 0, 0, 0, 0]).toArray 9 (Nat.le_refl _) (by decide) (by rfl)
  have HX := Lib.hid (And.intro hb (And.intro ho (h.below hb)))
  clear hb ho h
  go_enter Try.func20, Try.ntmps20
  go_wp2_with (at_builtin; refine app_row_is w.heap.size rfl _ _ 25 5 .u8 1 rfl Try.underlying25 (by kernel_rfl) (by decide) (some ⟨w.heap.size, 0, none⟩) 9 [op, 7, 0, 0, 0, 0, 0, 0, 0] l zs hz A c rfl rfl HX.out.2.1 HX.out.2.2.rd (by simp) (by simp; omega) ?_)
  intro B1 c1 w1 o1 g1 _
  have hB := Lib.hid (below_grown HX.out.1 g1 HX.out.2.1 (Nat.le_refl _))
  clear g1
  go_wp2_with fail
  go_ret
  exact ⟨B1, c1, rfl, OwnI.sl o1, hB.out⟩
end Go.Proofs.Ytjdablkdndmcgaa
