/- A map[int][]int16 by what it holds. -/
import Derived.Test.YtcmdjnllpcnpjaaDoorKeepM
import Derived.Test.YtcmdjnllpcnpjaaDoorKit
import Derived.Maps.OwnSet
import Derived.Maps.Views
import Derived.MapKept
import Derived.WalkKit
namespace Go.Proofs.YtcmdjnllpcnpjaaDoor
set_option linter.unusedVariables false
set_option linter.unusedSimpArgs false
open Go.RowKit Go.Maps Go.ChangeMaps Go.MapKept
theorem lawKI : Keyed Tryd.prog 3 := int_keyed Tryd.underlying3
abbrev nilS : Value := .slice none 0 0
theorem zeroS (w : World) : (zeroValue 32).run Tryd.prog w = .ok nilS w := by kernel_rfl
def heldS : Value → Option (DataW Value × List MemPlace) := fun v => some (.held v, [])
/-- Block bm is a map with N entries that holds f; at most n have been stored. -/
def MapS (w : World) (bm : Nat) (f : Int → Option Value) (N n : Nat) : Prop :=
  ∃ D : DataW Value, w.ownsMap Tryd.prog 3 heldS bm n D ∧ Maps.size D = N ∧ ∀ id, (Lit.int .i64 id).wf = true → Maps.has D (.int .i64 id) = (f id).isSome ∧ D.atKey (.int .i64 id) (.held nilS) = .held ((f id).getD nilS)
theorem MapS.lt {w : World} {bm : Nat} {f : Int → Option Value} {N n : Nat} (h : MapS w bm f N n) : bm < w.heap.size := by
  obtain ⟨D, h1, _⟩ := h
  exact h1.lt
theorem MapS.block {w w' : World} {bm : Nat} {f : Int → Option Value} {N n : Nat} (h : MapS w bm f N n) (hg : w'.heap[bm]? = w.heap[bm]?) : MapS w' bm f N n := by
  obtain ⟨D, ⟨es, clock, hb, F, hs, hD⟩, h2⟩ := h
  exact ⟨D, ⟨es, clock, hg.trans hb, F, hs, hD⟩, h2⟩
theorem MapS.new (w : World) : MapS (w.alloc (.map #[] 0)) w.heap.size (fun _ => none) 0 0 :=
  ⟨.map [], World.ownsMap_made w _ _ _, rfl, fun id _ => ⟨rfl, rfl⟩⟩
theorem keyI (id : Int) (h : (Lit.int .i64 id).wf = true) : keyOf Tryd.prog 3 (.int .i64 id) = some (.int .i64 id) := keyOf_int_mk Tryd.underlying3 h
/-- 'm[id]'. -/
theorem MapS.look {w : World} {bm : Nat} {f : Int → Option Value} {N n : Nat} (h : MapS w bm f N n) (id : Int) (hid : (Lit.int .i64 id).wf = true) :
    (Instr.lookup 39 (.map (some bm)) (.int .i64 id) false).run Tryd.prog w = .ok ((f id).getD nilS) w := by
  obtain ⟨D, h1, _, h3⟩ := h
  have h4 := (h3 id hid).2
  obtain ⟨es, clock, hb, F, _, rfl⟩ := h1
  rcases Maps.fit_look false lawKI Tryd.underlying39 (zeroS w) hb F (keyI id hid) with ⟨hrun, _, hat⟩ | ⟨e0, y, _, _, hrun, hRv, hat, _⟩
  · rw [hat] at h4
    injection h4 with h4
    rw [← h4]; simpa using hrun
  · rw [hat] at h4
    unfold heldS at hRv
    injection hRv with hRv
    rw [← hRv] at h4
    injection h4 with h4
    rw [← h4]; simpa using hrun
theorem MapS.len {w : World} {bm : Nat} {f : Int → Option Value} {N n : Nat} (h : MapS w bm f N n) (ty : TypeId) : (Builtin.len_ #[39] ty #[.map (some bm)]).run Tryd.prog w = .ok (.int .i64 (N : Int)) w := by
  obtain ⟨D, h1, h2, _⟩ := h
  rw [← h2]
  exact h1.len Tryd.underlying39 ty
theorem isKeyI (id : Int) : WideAt.IsKeyLit (.int .i64 id) := by simp [WideAt.IsKeyLit]
def upS (f : Int → Option Value) (id : Int) (v : Option Value) : Int → Option Value := fun x => if x = id then v else f x
theorem litI_ne {a b : Int} (h : a ≠ b) : (Lit.int .i64 a) ≠ (Lit.int .i64 b) := fun e => h (by injection e)
/-- 'm[id] = v'. -/
theorem MapS.store {w : World} {bm : Nat} {f : Int → Option Value} {N n : Nat} (h : MapS w bm f N n) (hn : n ≤ 1000000000) (id : Int) (v : Value) (hid : (Lit.int .i64 id).wf = true) (hf : f id = none) :
    ∃ w', (Instr.mapUpdate 39 (.map (some bm)) (.int .i64 id) v).run Tryd.prog w = .ok () w' ∧ MapS w' bm (upS f id (some v)) (N + 1) (n + 1) ∧ w.grownBy w' (some bm) := by
  obtain ⟨D, h1, h2, h3⟩ := h
  obtain ⟨w', hrun, o1, g1⟩ := h1.store lawKI Tryd.underlying39 (by unfold maxLen; omega) (keyI id hid) (d := .held v) (ps := []) (val := v) rfl
  have ht := h1.tidy lawKI
  have hno : Maps.has D (.int .i64 id) = false := by rw [(h3 id hid).1, hf]; rfl
  refine ⟨w', hrun, ⟨_, o1, by rw [size_put ht, hno, h2]; simp, fun x hx => ?_⟩, g1.grown⟩
  unfold upS
  by_cases hxi : x = id
  · subst hxi
    rw [if_pos rfl]
    exact ⟨has_put_same ht.isMap (isKeyI _) _, atKey_put_same ht.isMap (isKeyI _) _ _⟩
  · rw [if_neg hxi, has_put_other (litI_ne hxi), atKey_put_other (litI_ne hxi)]
    exact h3 x hx
/-- 'delete(m, id)'. -/
theorem MapS.drop {w : World} {bm : Nat} {f : Int → Option Value} {N n : Nat} (h : MapS w bm f N n) (id : Int) (hid : (Lit.int .i64 id).wf = true) (ty : TypeId) :
    ∃ w', (Builtin.delete_ #[39, 3] ty #[.map (some bm), .int .i64 id]).run Tryd.prog w = .ok (.tuple #[]) w' ∧ MapS w' bm (upS f id none) (if (f id).isSome then N - 1 else N) n ∧ w.grownBy w' (some bm) := by
  obtain ⟨D, h1, h2, h3⟩ := h
  obtain ⟨w', hrun, o1, g1⟩ := h1.drop lawKI Tryd.underlying39 (keyI id hid) ty
  have ht := h1.tidy lawKI
  have hs := size_del (k := .int .i64 id) ht
  rw [(h3 id hid).1] at hs
  refine ⟨w', hrun, ⟨_, o1, by split at hs <;> simp_all <;> omega, fun x hx => ?_⟩, g1.grown⟩
  unfold upS
  by_cases hxi : x = id
  · subst hxi
    rw [if_pos rfl]
    exact ⟨has_del_same, atKey_of_not_has has_del_same _⟩
  · rw [if_neg hxi, has_del_other (litI_ne hxi), atKey_del_other (litI_ne hxi)]
    exact h3 x hx
end Go.Proofs.YtcmdjnllpcnpjaaDoor
