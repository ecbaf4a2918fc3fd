/- CmdM: the map of a command's readers. -/
import Derived.Test.YtjdablkdndmcgaaCmdP4
import Derived.Maps.OwnSet
import Derived.Maps.Views
import Derived.MapKept
import Derived.Carry
namespace Go.Proofs.Ytjdablkdndmcgaa
set_option linter.unusedVariables false
set_option linter.unusedSimpArgs false
open Go.RowKit Go.Maps Go.ChangeMaps Go.MapKept
theorem fieldK : Keyed Try.prog 57 := int_keyed Try.underlying57
def fnV (n : Nat) : Value := .func (.func n) #[] #[]
theorem map_push {W : World} {m c : Nat} {es : Array MapEntry} (k : Int) (v : Value) (hk : (Lit.int .u64 k).wf = true) (hb : W.heap[m]? = some (.map es c)) (hf : Instr.findNow (.int .u64) (.int .u64 k) es.toList 0 = some none) :
    ∃ W', (Instr.mapUpdate 68 (.map (some m)) (.int .u64 k) v).run Try.prog W = .ok () W' ∧ W'.heap[m]? = some (.map (es.push ⟨.int .u64 k, v, c⟩) (c + 1)) ∧ W.grownBy W' (some m) := by
  have hkey := keyOf_int_mk (k := 57) Try.underlying57 hk
  refine ⟨setBlock W m (.map (es.push ⟨.int .u64 k, v, c⟩) (c + 1)), ?_, heap_setBlock_same hb _, ?_⟩
  · simp [Instr.mapUpdate, run_underlying Try.underlying68, MapKept.run_getObj_map hb, fieldK.check W false hkey, Instr.findKey, run_underlying Try.underlying57, hf, MapKept.run_setObj_map _ hb, Result.andThen, setBlock]
  · exact ⟨rfl, rfl, rfl, by simp [setBlock], fun i _ hi => heap_setBlock_other hb _ (fun e => hi (by rw [e]))⟩
theorem map_look {W : World} {m c i : Nat} {es : Array MapEntry} (k : Int) (v : Value) (hk : (Lit.int .u64 k).wf = true) (hb : W.heap[m]? = some (.map es c)) (hf : Instr.findNow (.int .u64) (.int .u64 k) es.toList 0 = some (some (i, v))) :
    (Instr.lookup 68 (.map (some m)) (.int .u64 k) false).run Try.prog W = .ok v W := by
  have hkey := keyOf_int_mk (k := 57) Try.underlying57 hk
  simp [Instr.lookup, run_underlying Try.underlying68, MapKept.run_getObj_map hb, fieldK.check W _ hkey, Instr.findKey, run_underlying Try.underlying57, hf, Result.andThen]
/-- The four entries. -/
def readsE : Array MapEntry := #[⟨.int .u64 1, fnV 61, 0⟩, ⟨.int .u64 2, fnV 62, 1⟩, ⟨.int .u64 4, fnV 63, 2⟩, ⟨.int .u64 8, fnV 64, 3⟩]
theorem reads_calls (w : World) :
    Calls Try.prog 42 #[] w fun en w' => ∃ m, en = .returned (.map (some m)) ∧ w'.heap[m]? = some (.map readsE 4) ∧ Below w.heap.size w w' := by
  have hmm := @run_makeMap Try.prog
  have h0 : (w.alloc (.map #[] 0)).heap[w.heap.size]? = some (.map #[] 0) := World.alloc_heap_new w _
  obtain ⟨w1, r1, h1, g1⟩ := map_push 1 (fnV 61) (by decide) h0 (by rfl)
  obtain ⟨w2, r2, h2, g2⟩ := map_push 2 (fnV 62) (by decide) h1 (by rfl)
  obtain ⟨w3, r3, h3, g3⟩ := map_push 4 (fnV 63) (by decide) h2 (by rfl)
  obtain ⟨w4, r4, h4, g4⟩ := map_push 8 (fnV 64) (by decide) h3 (by rfl)
  have hb : Below w.heap.size w w4 := by
    have b0 := below_box0 w (.map #[] 0)
    have hr : ∀ k, some w.heap.size = some k → w.heap.size ≤ k := fun k hk => by injection hk with hk; omega
    have b1 := below_row b0 b0.size g1 hr
    have b2 := below_row b1 b1.size g2 hr
    have b3 := below_row b2 b2.size g3 hr
    exact below_row b3 b3.size g4 hr
  replace hb := Lib.hid hb
  replace h4 := Lib.hid h4
  clear h1 h2 h3 g1 g2 g3 g4 h0
  unfold fnV at r1 r2 r3 r4
  go_enter Try.func42, Try.ntmps42
  go_wp2
  go_ret
  exact ⟨w.heap.size, rfl, h4.out, hb.out⟩
end Go.Proofs.Ytjdablkdndmcgaa
