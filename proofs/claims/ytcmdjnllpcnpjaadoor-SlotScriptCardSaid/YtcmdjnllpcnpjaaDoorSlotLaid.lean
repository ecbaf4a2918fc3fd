/- The library's table, as the row lays it. -/
import Derived.Test.YtcmdjnllpcnpjaaDoorRows
import Derived.Test.YtcmdjnllpcnpjaaDoorSlotAny
import Derived.ProofKit
import Derived.LaidMore
import Derived.OpenShut
import Derived.Stop.Joined
namespace Go.Proofs.YtcmdjnllpcnpjaaDoor
set_option linter.unusedVariables false
set_option linter.unusedSimpArgs false
open Go.ChangeShapes Go.WideShapes Go.ChangeAt Go.RowKit
theorem gTab : Tryd.prog.globalNamed "math/bits.deBruijn64tab" = some 0 := by kernel_rfl
theorem tTab : (Tryd.prog.globals[0]?).map (·.type) = some 67 := by kernel_rfl
abbrev laidL : List (String × DataW Unit) := [("math/bits.deBruijn64tab", Rows.laid_math_bits_deBruijn64tab)]
theorem door_met (os : Os) (args : Array Value) : laidMetH Tryd.prog laidL ((World.doorLaid Tryd.prog 400 os).forCall (fun _ _ => 0) ⟨#[], args, []⟩).memory :=
  laidMetH_of_parts3 (fuel := 8) (laidMet_of_run' 8 (by kernel_rfl) (by kernel_rfl)) (by kernel_rfl) (by kernel_rfl)
theorem laid_list : (Rows.laid_math_bits_deBruijn64tab : DataW Unit) = .agg (Lib.deBruijn64tab.map fun n : Nat => .lit (.int .u8 n)) := rfl
theorem tab_of_laid {W : World} (h : laidMetH Tryd.prog laidL W) : TabG W := by
  rw [MakeChecks.laidMetH_plain _ _ _ (by kernel_rfl)] at h
  obtain ⟨ps, ⟨g0, t0, cs0, f0, p0, q0, hg0, ht0, hv0, hd0, _⟩, _, _⟩ := h
  obtain rfl := Option.some.inj (gTab.symm.trans hg0)
  obtain rfl := Option.some.inj (tTab.symm.trans ht0)
  obtain ⟨xs, m1, rfl, hx1, hlen, hn, hel⟩ := DataW.trod_array Tryd.underlying67 hd0
  have c5 : Tryd.prog.cellsOf 5 = 1 := by kernel_rfl
  have hx2 := congrArg Prod.fst hx1
  rw [laid_list] at hx2
  injection hx2 with hx2
  intro j hj
  have h0 := hel j hj
  rw [c5, List.getElem?_eq_getElem (show j < xs.length by omega)] at h0
  obtain ⟨k, e1, e2, _⟩ := DataW.trod_int Tryd.underlying5 h0
  have hc := World.var?_cell hg0 hv0 j
  rw [Nat.mul_one] at e1
  have e3 : cs0.toList[j]? = some (.int .u8 k) := by
    have := congrArg (fun l : List Value => l[0]?) e1
    simpa [List.getElem?_take, List.getElem?_drop] using this
  rw [Array.getElem?_toList] at e3
  rw [e3] at hc
  rw [hc]
  have h3 := congrArg (fun l : List (DataW Unit) => l[j]?) hx2
  simp only [List.getElem?_map, List.getElem?_eq_getElem (show j < xs.length by omega), Option.map_some, e2] at h3
  have hl : j < Lib.deBruijn64tab.length := hj
  rw [List.getElem?_eq_getElem hl, Option.map_some] at h3
  injection h3 with h3
  injection h3 with h3
  injection h3 with _ h3
  rw [← h3, List.getD_eq_getElem?_getD, List.getElem?_eq_getElem hl]; rfl
end Go.Proofs.YtcmdjnllpcnpjaaDoor
